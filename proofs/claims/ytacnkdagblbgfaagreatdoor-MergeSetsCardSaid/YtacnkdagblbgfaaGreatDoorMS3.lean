/- Part 3 of 11. -/
import Derived.Test.YtacnkdagblbgfaaGreatDoorMS2
import Derived.Laws.Small
import Derived.Laws.StructEq
namespace Go.Proofs.YtacnkdagblbgfaaGreatDoor
set_option maxHeartbeats 8000000
open Go.RowKit V
set_option maxHeartbeats 8000000
set_option maxRecDepth 100000
variable {w w' w0:Ez} {L L':ED} {b c d g hi i id k lo m nb off rb tb:Nat} {A B:oA} {P:E4} {vs xs:EE} {e ty:E6} {x z:E8} {K:E9} {zs:List Int} {ops:Array Oper} {o:Oper} {a0 s:E0} {cs cur:EH} {R' R2:List (EE×E8)} {O:EF} {vals ρ:EB} {l:LB} {mx:Option E8} {o':Obj} {xo yo:Operand}
def dash:E0:=⟨#[45]⟩
def qbf(s:E0):List E0:=Go.Lib.splitB dash 0 (Go.Lib.countB s dash) s
theorem qm6(s:E0):(qbf s).length=Go.Lib.countB s dash+1:=Go.Lib.splitB_all dash Od 0 _ s rfl
noncomputable def tagR(l:List E0):Option (List E0):=if seeB qe0 l=true then some l else(qeh l).bind qja
def qjz(x:E0):Bool:=q6 x 1 8 false
def qoe(l:List E0):Prop:=if seeB qe0 l=true then(l.tail≠[]/\l.tail.all qjz=true)else l=[]
def tagP(l:List E0):Prop:=∃l1,tagR l=some l1/\qoe l1
open Classical in
noncomputable def tagE(l:List E0):Nat:=if tagP l then 0 else 61
theorem ql6{l:List E0}(h:tagP l):tagE l=0:=by unfold tagE;rw[Ad h]
theorem qdg{l:List E0}(h:¬tagP l):tagE l=61:=by unfold tagE;rw[Aa h]
def MaxLenAt(w:Ez):Prop:=∃m:Int,w.cell? ⟨2,0,none⟩=some (ii m)
theorem MaxLenAt.ext(h:MaxLenAt w)(he:Ext w w'):MaxLenAt w':=⟨h.choose,he.cell h.choose_spec⟩
theorem q6v{l:List E0}{t:E6}(hw:w'=w.alloc (.cells (l.map Value.string).toArray t)):SlAt V.zeS 1 w' (some ⟨w.heap.size,0,none⟩) l:=by
 subst hw;refine⟨fun _=>⟨w.heap.size,0,rfl,fun j x hx k v hv=>?_⟩⟩;cases k with
 | succ k=>simp[V.zeS]at hv
 | zero=>
  simp only[V.zeS,B9,Bp]at hv;subst hv;rw[qa (heap_alloc_new w _)];simp[hx]
theorem q3f(s:E0)(hs:s.size<=1000000)(w:Ez)(hM:MaxLenAt w):
  Gv EG 231 [.string s,.string dash] w fun v w'=>∃b,v=.slice (some ⟨b,0,none⟩) (qbf s).length (qbf s).length/\SlAt V.zeS 1 w' (some ⟨b,0,none⟩) (qbf s)/\Ext w w':=by
 obtain⟨m,hm⟩:=hM;refine qhe Jk ((Tryz.strings_Split s dash m w Oo hm Od).mono ?_);rintro e w' ⟨rfl,hw⟩;exact⟨_,rfl,w.heap.size,by rw[qm6],q6v hw,by rw[hw];exact(Ext.refl w).alloc _⟩
theorem qd9:∀v∈[Value.string ⟨#[]⟩,.string ⟨#[]⟩,.string ⟨#[]⟩,.string ⟨#[]⟩,.slice none 0 0,.slice none 0 0,.string ⟨#[]⟩],v.oneCell'=true:=by
 intro v hv;simp at hv
 rcases hv with rfl|rfl|rfl<;>rfl
theorem qqo:∀(k:Nat) (l:List E0),(qey k l).length<=l.length/\∀x∈qey k l,x∈l
 | 0,l=>⟨Aq _,fun x hx=>hx⟩
 | k+1,[]=>⟨Aq _,fun x hx=>hx⟩
 | k+1,y::ys=>by
  by_cases hm:q6 y 3 3 true=true
  ·rw[qey,Ad hm];obtain⟨h1,h2⟩:=qqo k ys;exact⟨by simp;omega,fun x hx=>zmc (h2 x hx)⟩
  ·rw[qey,Aa hm];exact⟨Aq _,fun x hx=>hx⟩
theorem qmz{l r:List E0}(h:qeh l=some r):r.length<=l.length/\∀x∈r,x∈l:=by
 cases l with
 | nil=>cases h
 | cons y ys=>
  by_cases hm:q6 y 2 8 true=true
  ·rw[qeh,Ad hm]at h;have h:=BB h;subst h
   split
   ·exact⟨by simp,fun x hx=>zmc hx⟩
   ·obtain⟨h1,h2⟩:=qqo 3 ys;exact⟨by simp;omega,fun x hx=>zmc (h2 x hx)⟩
  ·rw[qeh,Aa hm]at h;cases h
theorem q1g{l r:List E0}(h:qeh l=some r):∀x∈r,x∈l:=(qmz h).2
theorem qk1{l r:List E0}(h:qeh l=some r):r.length<=l.length:=(qmz h).1
theorem qwk{n size:Nat}{t:EE}{K:EE->Prop}(hm:Mem w0 w L)(hi:(rb,rdC A n c t)∈L)(ho:off=1)(hs:t.length=size)(hk:K t):LoadA w rb off size K:=by
 subst ho;refine⟨t,hs,fun i hi'=>?_,hk⟩;have:=hm.get hi;rw[rdC]at this;rw[qa this,Ar,CB 1 i,D3]
theorem tag7{V E:E8}(h:(∃A n c,V=.slice A n c)/\∃A n c,E=.slice A n c)(a0 a1 a2 a3 a6:E0):∀v∈tagC a0 a1 a2 a3 V E a6,v.oneCell'=true:=by
 obtain⟨⟨_,_,_,rfl⟩,⟨_,_,_,rfl⟩⟩:=h;intro v hv;simp[tagC]at hv
 rcases hv with rfl|rfl|rfl|rfl|rfl|rfl|rfl<;>rfl
theorem qlj(s:E0):(qbf s).map (·.data.toList)=qbq s.data.toList:=by
 rw[qbf,Go.Lib.splitB_data,<-ql1];rfl
theorem qm7(s:E0):(∀x∈qbf s,x.size<=s.size)/\(qbf s).length<=s.size+1:=by
 obtain⟨h1,h2⟩:=qm5 s.data.toList;rw[<-qlj]at h1 h2;refine⟨fun x hx=>?_,by simpa using h1⟩;have:=h2 _ (AY.2 ⟨x,hx,rfl⟩)
 simpa using this
def TagV(l:List E0)(v:E8):Prop:=∃c0 c1 c2 c3 c4 c5 c6,(∀u∈[c0,c1,c2,c3,c4,c5,c6],u.oneCell'=true)/\v=.tuple #[.agg #[c0,c1,c2,c3,c4,c5,c6],ii (tagE l)]
theorem qab8(s:E0)(hs:s.size<=65536)(w:Ez)(hM:MaxLenAt w):
  Gv EG 182 [.string s] w fun v w'=>TagV (qbf s) v/\Ext w w':=by
 obtain⟨p1,p2⟩:=qm7 s;obtain⟨l,hl⟩:∃l,l=qbf s:=⟨_,rfl⟩
 rw[<-hl]at p1 p2;refine ze Tryz.func182 Tryz.ntmps182 ?_;refine znm (Mem.nil w) fun rt w1 hm1=>zw ?_;refine zcv (q3f s Oo w1 (hM.ext hm1.ext)) ?_;rintro v w2 ⟨pb,rfl,hS,he2⟩;rw[<-hl]at hS|-;have hm2:=hm1.call he2;(conv=>whnf);refine znm (Mem.nil w2) ?_;intro rb w3 hm3;have h0:RS w2 w3 [rb] rb l (some ⟨pb,0,none⟩) l.length (.slice none 0 0) (.slice none 0 0) [(rb,rdC (some ⟨pb,0,none⟩) l.length l.length (tagC ⟨#[]⟩ ⟨#[]⟩ ⟨#[]⟩ ⟨#[]⟩ (.slice none 0 0) (.slice none 0 0) ⟨#[]⟩))] []:=
  ⟨hm3,⟨_,_,_,_,_,AK ..⟩,RowsP.none_,hS,Aq _,AK ..,fun g hg=>by obtain rfl:=Ah.1 hg;exact⟨_,AK ..⟩,fun x hx=>by have:=p1 x hx;omega,⟨⟨_,_,_,rfl⟩,⟨_,_,_,rfl⟩⟩⟩
 (conv=>whnf);refine zcv (qjd qe0 h0 (fun x w1 _=>by
  refine(qgw x w1).mono ?_;rintro v w' ⟨rfl,rfl⟩;exact⟨rfl,xr⟩)) ?_
 rintro v w6 ⟨rfl,h4⟩;(conv=>whnf);cases hq:seeB qe0 l
 case' true=>
  refine zv ?_;obtain⟨l1,A1,c1,V1,E1,L1,e1,g1,d1⟩:∃l1 A1 c1 V1 E1 L1,tagR l=some l1/\RS w2 w6 [rb] rb l1 A1 c1 V1 E1 L1 []/\l1.length<=1000000:=⟨l,_,_,_,_,_,by rw[tagR,Ad hq],h4,by omega⟩
  clear hq h4 h0
 case' false=>
  have eT:tagR l=(qeh l).bind qja:=by rw[tagR,Aa (by rw[hq];simp)]
  refine zv ?_;refine zcv (qq3 rb 0 l _ _ ⟨#[]⟩ ⟨#[]⟩ ⟨#[]⟩ ⟨#[]⟩ _ _ w2 w6 _ h4.mem rfl hS znr h4.small) ?_;rintro v w5 (⟨e2,rfl,hx5⟩|⟨l2,e2,rfl,A2,c2,b0,b1,hS2,hc2,hm5⟩)
  ·rw[e2]at eT;refine zu ?_;refine StoreA.mem (hm2.call hx5) (i:=0) rfl (Aq 7) qd9 fun w9 hm9=>zw ?_;refine qh (R:=fun v w'=>TagV l v/\Ext w w') (zw ?_);refine zl hm9 0 ?_;exact⟨⟨_,_,_,_,_,_,_,qd9,by rw[qdg (fun h=>by obtain⟨l1,h1,_⟩:=h;rw[eT]at h1;cases h1)];rfl⟩,hm9.ext⟩
  rw[e2]at eT;have h5:RS w2 w5 [rb] rb l2 A2 c2 (.slice none 0 0) (.slice none 0 0) [(rb,rdC A2 l2.length c2 (tagC b0 b1 ⟨#[]⟩ ⟨#[]⟩ (.slice none 0 0) (.slice none 0 0) ⟨#[]⟩))] []:=
   ⟨hm5,⟨_,_,_,_,_,AK ..⟩,RowsP.none_,hS2,hc2,AK ..,fun g hg=>by obtain rfl:=Ah.1 hg;exact⟨_,AK ..⟩,fun x hx=>by have:=p1 x (q1g e2 x hx);omega,⟨⟨_,_,_,rfl⟩,⟨_,_,_,rfl⟩⟩⟩
  refine zu ?_;refine zcv (q6n rb [rb] l2 A2 c2 w2 w5 _ h5 (by have:=qk1 e2;omega)) ?_;rintro v w6 (⟨e3,rfl,hx6⟩|⟨l3,e3,rfl,A3,c3,V3,E3,L3,h6,hl3,_⟩)
  ·have eT:tagR l=none:=by rw[eT];exact e3
   refine zu ?_;refine StoreA.mem (hm2.call hx6) (i:=0) rfl (Aq 7) qd9 fun w9 hm9=>zw ?_;refine qh (R:=fun v w'=>TagV l v/\Ext w w') (zw ?_);refine zl hm9 0 ?_;exact⟨⟨_,_,_,_,_,_,_,qd9,by rw[qdg (fun h=>by obtain⟨l1,h1,_⟩:=h;rw[eT]at h1;cases h1)];rfl⟩,hm9.ext⟩
  obtain⟨l1,A1,c1,V1,E1,L1,e1,g1,d1⟩:∃l1 A1 c1 V1 E1 L1,tagR l=some l1/\RS w2 w6 [rb] rb l1 A1 c1 V1 E1 L1 []/\l1.length<=1000000:=⟨l3,_,_,_,_,_,by rw[eT];exact e3,h6,by have:=qk1 e2;omega⟩
  clear hq h4 h0 eT e2 h5 e3 h6;refine zu ?_
 all_goals
  refine zcv (qjd qe0 g1 (fun x w1 _=>by
   refine(qgw x w1).mono ?_;rintro v w' ⟨rfl,rfl⟩;exact⟨rfl,xr⟩)) ?_
  rintro v w7 ⟨rfl,g2⟩;cases hq2:seeB qe0 l1
  ·have hend:qoe l1↔l1=[]:=by rw[qoe,Aa (by rw[hq2];simp)]
   refine zu ?_;obtain⟨a0,a1,a2,a3,a6,hrd⟩:=id g2.rd;refine LoadV.of (v:=.slice A1 l1.length c1) (by have:=g2.mem.get hrd;rw[rdC]at this;rw[qa this];rfl) (zw ?_)
   (repeat' refine zC (fun _=>zw ?_) (fun _=>zw ?_))
   ·skip
    refine StoreA.mem (hm2.call g2.mem.ext) (i:=0) rfl (Aq 7) qd9 fun w9 hm9=>zw ?_;refine qh (R:=fun v w'=>TagV l v/\Ext w w') (zw ?_);refine zl hm9 0 ?_;exact⟨⟨_,_,_,_,_,_,_,qd9,by rw[qdg (fun h=>by obtain⟨l2,h1,h2⟩:=h;rw[e1]at h1;cases h1;have e:=hend.1 h2;have:l1.length=0:=(by rw[e];rfl);omega)];rfl⟩,hm9.ext⟩
   ·skip
    obtain⟨⟨VA,vn,vc,rfl⟩,⟨EA,en,ec,rfl⟩⟩:=id g2.vs;obtain⟨z0,z1,z2,z3,z6,hrd⟩:=id g2.rd;refine qwk g2.mem hrd rfl rfl (zw ?_);refine StoreA.mem (hm2.call g2.mem.ext) (i:=0) rfl (Aq 7) (tag7 g2.vs _ _ _ _ _) fun w9 hm9=>zw ?_;refine qh (R:=fun v w'=>TagV l v/\Ext w w') (zw ?_);refine zl hm9 0 ?_;exact⟨⟨_,_,_,_,_,_,_,tag7 ⟨⟨_,_,_,rfl⟩,⟨_,_,_,rfl⟩⟩ _ _ _ _ _,by rw[ql6 ⟨l1,e1,hend.2 (D4.1 Oo)⟩];rfl⟩,hm9.ext⟩
  ·obtain⟨x,xs,rfl⟩:∃x xs,l1=x::xs:=by
    cases l1 with
    | nil=>cases hq2
    | cons x xs=>exact⟨x,xs,rfl⟩
   have hend:qoe (x::xs)↔xs≠[]/\xs.all qjz=true:=by rw[qoe,Ad hq2];rfl
   refine zu ?_;refine zcv (qla g2) ?_;rintro v w8 ⟨rfl,A8,c8,L8,g8,_⟩;(conv=>whnf);obtain⟨a0,a1,a2,a3,a6,hrd⟩:=id g8.rd;refine zcv (qwm (least:=1) g8.mem hrd g8.sl g8.hc g8.small (by simp at d1;omega)) ?_;rintro v w9 ⟨pre,rest',sT,hP,hse,rfl,A9,c9,L9,hS9,hc9,hr9⟩;have g9:=g8.step hr9 ⟨_,_,_,_,_,rfl⟩ hS9 hc9 (fun y hy=>by rw[hP.eq];exact Ai _ hy) g8.vs;(conv=>whnf);have hall:xs≠[]/\xs.all qjz=true↔pre≠[]/\rest'=[]:=by
    have hPa:pre.all qjz=true:=hP.all;rw[hP.eq,DR,hPa,Dh]
    constructor
    ·rintro⟨n1,n2⟩;have hr:rest'=[]:=by
      cases rest' with
      | nil=>rfl
      | cons y ys=>
       have:qjz y=false:=hse;simp[this]at n2
     exact⟨fun e=>n1 (by rw[e,hr];rfl),hr⟩
    ·rintro⟨n1,rfl⟩;exact⟨by simpa using n1,rfl⟩
   rw[hall]at hend;have hxx:=g2.small x mh;have hsT:=hP.size;have hpl:pre.length<=1000000:=by have:=Af List.length hP.eq;simp at this d1;omega
   by_cases hp:pre=[]
   ·rw[AH (by simp[hp])];refine zu ?_;refine StoreA.mem (hm2.call g9.mem.ext) (i:=0) rfl (Aq 7) qd9 fun w9 hm9=>zw ?_;refine qh (R:=fun v w'=>TagV l v/\Ext w w') (zw ?_);refine zl hm9 0 ?_;exact⟨⟨_,_,_,_,_,_,_,qd9,by rw[qdg (fun h=>by obtain⟨l2,h1,h2⟩:=h;rw[e1]at h1;cases h1;exact(hend.1 h2).1 hp)];rfl⟩,hm9.ext⟩
   ·rw[Az (by simpa using hp)];refine zu ?_;refine⟨by omega,?_⟩;(conv=>whnf);obtain⟨a0,a1,a2,a3,a6,hrd⟩:=id g9.rd;refine qfh g9.mem hrd 6 rfl (show 6<7 by decide) rfl ?_;intro w10 L10 hr10;have g10:=g9.step hr10 ⟨_,_,_,_,_,rfl⟩ hS9 hc9 (fun y hy=>hy) g9.vs;obtain⟨a0,a1,a2,a3,a6,hrd⟩:=id g10.rd;(conv=>whnf);refine LoadV.of (v:=.slice A9 rest'.length c9) (by have:=g10.mem.get hrd;rw[rdC]at this;rw[qa this];rfl) (zw ?_)
    (repeat' refine zC (fun _=>zw ?_) (fun _=>zw ?_))
    ·skip
     refine StoreA.mem (hm2.call g10.mem.ext) (i:=0) rfl (Aq 7) qd9 fun w9 hm9=>zw ?_;refine qh (R:=fun v w'=>TagV l v/\Ext w w') (zw ?_);refine zl hm9 0 ?_;exact⟨⟨_,_,_,_,_,_,_,qd9,by rw[qdg (fun h=>by obtain⟨l2,h1,h2⟩:=h;rw[e1]at h1;cases h1;have e:=(hend.1 h2).2;have:rest'.length=0:=(by rw[e];rfl);omega)];rfl⟩,hm9.ext⟩
    ·skip
     obtain⟨⟨VA,vn,vc,rfl⟩,⟨EA,en,ec,rfl⟩⟩:=id g10.vs;obtain⟨z0,z1,z2,z3,z6,hrd⟩:=id g10.rd;refine qwk g10.mem hrd rfl rfl (zw ?_);refine StoreA.mem (hm2.call g10.mem.ext) (i:=0) rfl (Aq 7) (tag7 g10.vs _ _ _ _ _) fun w9 hm9=>zw ?_;refine qh (R:=fun v w'=>TagV l v/\Ext w w') (zw ?_);refine zl hm9 0 ?_;exact⟨⟨_,_,_,_,_,_,_,tag7 ⟨⟨_,_,_,rfl⟩,⟨_,_,_,rfl⟩⟩ _ _ _ _ _,by rw[ql6 ⟨_,e1,hend.2 ⟨hp,D4.1 Oo⟩⟩];rfl⟩,hm9.ext⟩
namespace V
theorem AppV.one{n:Nat}{t:E6}{i:TypeInfo}(ht:P.underlying t=some (.slice e))(hi:P.info? e=some i)(hz:i.zero=some z)(hsize:i.size=1)(hzs:z.cells.size=1)(hby:i.bytes<=16)(h:Rw w0 w (.slice A n c) e 1 n xs ((nb,.cells #[x] e)::L))(hx:x.oneCell'=true)(hn:n+1<=8000000000000)(hk:∀A' c' w',Rw w0 w' (.slice A' (n+1) c') e 1 (n+1) (xs++[x]) L->K (.slice A' (n+1) c') w'):AppV P #[t,t] ty (.slice A n c) (.slice (some ⟨nb,0,none⟩) 1 1) w K:=by
 refine AppV.rw (news:=[x]) ht hi hz hsize hzs Od h rfl (fun _=>⟨nb,0,rfl,fun k v hv=>?_⟩) (fun u hu=>by simp at hu;rw[hu];exact hx) ?_ Oo (fun A' c' w' h'=>hk A' c' w' h'.tail)
 ·rw[qa (h.mem.get mh),Aw]
  simpa using hv
 ·have:(n+1)*i.bytes<=8000000000000*16:=BT hn hby;omega
theorem Rw.ints(h:Rw w0 w (.slice A zs.length c) e 1 zs.length (zs.map (Value.int .i64)) L):SlAt zeI 1 w A zs:=by
 refine⟨fun hne=>?_⟩;obtain⟨g,rfl,_,_,_,hc⟩:=h.cells (Cc.2 hne);refine⟨g,0,rfl,fun j x hx k v hv=>?_⟩;cases k with
 | succ k=>simp[zeI]at hv
 | zero=>
  simp only[zeI,B9,Bp]at hv;subst hv;have:=hc j (ii x) (by rw[Ao,hx];rfl)
  simpa using this
theorem oneI(l:List Int):∀v∈l.map (Value.int .i64),v.oneCell'=true:=by
 intro v hv;obtain⟨x,_,rfl⟩:=AY.1 hv;rfl
end V
def rP:List (Int×Int):=(65,90)::(97,122)::basesP
def rbI:List Int:=rP.flatMap fun x=>[x.1,x.2]
theorem qae5:∀i (h:i<rP.length),(rbI.map (Value.int .i64))[i*2]?=some (ii rP[i].1)/\(rbI.map (Value.int .i64))[i*2+1]?=some (ii rP[i].2):=by
 intro i h;have h:i<14:=h;obtain rfl|rfl|rfl|rfl|rfl|rfl|rfl|rfl|rfl|rfl|rfl|rfl|rfl|rfl:i=0\/i=1\/i=2\/i=3\/i=4\/i=5\/i=6\/i=7\/i=8\/i=9\/i=10\/i=11\/i=12\/i=13:=by omega
 all_goals exact⟨rfl,rfl⟩
theorem q2r(r:Int):rP.any (inP r)=qjx r:=by
 show(inP r (65,90)||(inP r (97,122)||basesP.any (inP r)))=qjx r;have:letN r=(inP r (65,90)||inP r (97,122)):=by
  rw[AV];simp[letN,inP];omega
 rw[qjx,this,Bool.or_assoc]
theorem V.buildV_arr{t:E6}{n:Nat}{i:TypeInfo}{parts:List (Nat×E8)}{l:EE}{K:E8->Prop}(hi:P.info? t=some i)(hz:i.zero=some z)(hu:P.underlying t=some (.array n e))(hT:hasT P e=true)(hf:qqv (fun k=>some (k*tsz P e,tsz P e)) z.cells.toList parts=some l)(hk:K (.agg l.toArray)):qms P t parts K:=by
 unfold qms;simp only[hi,hz,hu,hT,hf,cond_true,qai];exact hk
namespace V
section
variable {P:E4} {n:Nat} {ρ:EB} {w:Ez}
theorem q8u{a b:Code}{Q:Exit->EB->EC}(h:qe4 P n a (seqQ (qe4 P n b Q) Q) ρ w):qe4 P n (.seq a b) Q ρ w:=h
theorem qsj{Q:Exit->EB->EC}(h:regV P n ops.toList (Q .normal) ops.toList ρ w):qe4 P n (.region id ops false) Q ρ w:=h
theorem qaeo{ops:List Oper}{Q:EB->EC}(h:Q ρ w):regV P n ops Q [] ρ w:=h
theorem quw{ops rest:List Oper}{Q:EB->EC}(hg:o.guard=none)(h:opV P o ρ w fun v w'=>putV n o.dst ρ v fun ρ'=>regV P n ops Q rest ρ' w'):regV P n ops Q (o::rest) ρ w:=by
 unfold regV;rw[hg];exact h
theorem q32{K:EB->EC}{Q:Exit->EB->EC}(h:K ρ w):seqQ K Q .normal ρ w:=h
theorem q8t{v:E8}{K:EB->Prop}(hd:Nat.blt d n=true)(h:K (upd ρ d v)):putV n (some d) ρ v K:=by
 unfold putV;simp only[hd,cond_true];exact h
theorem q7i{t:E6}(ho:o.op=.alloc t)(h:qu4 P t w K):opV P o ρ w K:=by
 unfold opV;rw[ho];exact h
theorem q7k{t:E6}{x v:Operand}(ho:o.op=.store t x v)(h:qw0 P t (ev ρ x) (ev ρ v) w (execOp (ev ρ) o) K):opV P o ρ w K:=by
 unfold opV;rw[ho];exact h
theorem q7j{t:E6}{parts:Array (Nat×Operand)}{dst:Option Tmp}{pos:String}{aft:Array Edge}{gd:Option (Nat×Bool)}(h:qms P t (evp ρ parts.toList) fun v=>K v w):
  opV P { dst:=dst,op:=.build t parts,type:=ty,pos:=pos,after:=aft,guard:=gd } ρ w K:=h
end
end V
theorem arrI:(EG.info? 391).isSome=true:=by kernel_rfl
theorem arrZ:((EG.info? 391).get arrI).zero=some (.agg (Array.replicate 28 (ii 0))):=by kernel_rfl
theorem arrF(ρ:EB):qqv (fun k=>some (k*tsz EG 3,tsz EG 3)) (Value.cells (.agg (Array.replicate 28 (ii 0)))).toList (evp ρ (rbI.zipIdx.map fun x=>(x.2,Operand.const (ii x.1))))=some (rbI.map (Value.int .i64)):=by kernel_rfl
theorem qrv(w:Ez):Gv EG 298 [] w fun v w'=>v=.agg (rbI.map (Value.int .i64)).toArray/\Ext w w':=by
 refine gv Jk Tryz.func298 rfl Tryz.ntmps298 rfl ?_;refine q8u (qsj ?_);refine quw rfl ?_;refine q7i rfl (zw ?_);refine znm (Mem.nil w) ?_;intro b w1 hm;dsimp only
 with_reducible refine q8t (d:=0) ?_ ?_
 ·exact rfl
 try dsimp only
 with_reducible refine qaeo ?_
 with_reducible refine q32 ?_
 with_reducible refine q8u ?_
 with_reducible refine qsj ?_
 with_reducible refine quw ?_ ?_
 ·exact rfl
 with_reducible refine q7j ?_
 with_reducible refine V.buildV_arr (e:=3) (n:=28) (i:=(EG.info? 391).get arrI) (z:=.agg (Array.replicate 28 (ii 0))) (l:=rbI.map (Value.int .i64)) ?_ ?_ Tryz.underlying391 ?_ ?_ ?_
 ·exact(Bn _).symm
 ·exact arrZ
 ·kernel_rfl
 ·exact arrF _
 dsimp only
 with_reducible refine q8t (d:=1) ?_ ?_
 ·exact rfl
 try dsimp only
 with_reducible refine quw ?_ ?_
 ·exact rfl
 refine q7k (by rfl) (zw ?_);refine StoreA.mem (vs:=rbI.map (Value.int .i64)) hm (i:=0) rfl (Aq 28) (oneI _) fun w2 hm2=>zw ?_;refine qh (R:=fun v w'=>v=.agg (rbI.map (Value.int .i64)).toArray/\Ext w w') (zw ?_);refine zL hm2 0 ?_;rw[qai];exact⟨rfl,hm2.ext⟩
theorem qkr{t:E6}{fr:Nat×Nat}(h:Mem w0 w ((b,.cells vs.toArray t fr)::L)):CellsAt w b 0 vs:=by
 intro k v hv;rw[qa (h.get mh),Aw]
 simpa using hv
theorem qts(r:Int)(w:Ez):Gv EG 243 [ii r] w fun v w'=>v=.bool (qjx r)/\Ext w w':=by
 refine ze Tryz.func243 Tryz.ntmps243 ?_;refine zcv (qrv w) ?_;rintro v w1 ⟨rfl,he⟩;(conv=>whnf);refine znm ((Mem.nil w).call he) fun b w2 hm=>zw ?_;refine StoreA.mem (vs:=rbI.map (Value.int .i64)) hm (i:=0) rfl (Aq 28) (oneI _) fun w3 hm=>zw ?_;refine qj (fun i:Nat=>[(0,ii r),(3,pp b),(4,ii (i*2:Nat))]) (fun i w4=>i<=14/\(rP.take i).any (inP r)=false/\Mem w w4 [(b,.cells (rbI.map (Value.int .i64)).toArray 391)]) (fun i=>14-i) 0 fq ⟨by omega,rfl,hm⟩ ?_;rintro i w4 ρ' ⟨h1,h2,hm⟩;(conv=>whnf);refine zC (fun _=>zu ?_) (fun _=>zu ?_)
 ·have hi:i<rP.length:=show i<14 by omega
  obtain⟨b1,b2⟩:=qae5 i hi;have hany:∀c,inP r rP[i]=c->(rP.take (i+1)).any (inP r)=c:=fun c hc=>by
   rw[Bm hi,Ek,h2,Ee,hc];simp
  refine LoadV.of (qzz (qkr hm _ _ b1)) (zw ?_);refine zC (fun _=>zu ?_) (fun _=>zu ?_)
  ·refine⟨i*2+1,by omega,by omega,?_⟩;refine zu ?_;refine LoadV.of (qvf (qkr hm _ _ b2)) (zw ?_);refine zt ?_;refine zC (fun _=>zu ?_) (fun _=>zu ?_)
   ·refine⟨Af Value.bool ?_,hm.ext⟩;rw[<-q2r];exact(Es.2 ⟨rP[i],AT hi,by simp[inP];omega⟩).symm
   ·exact⟨i+1,⟨rfl,rfl,Af (Value.int .i64) Oo,trivial⟩,⟨by omega,hany _ (by simp[inP];omega),hm⟩,by omega⟩
  ·exact⟨i+1,⟨rfl,rfl,Af (Value.int .i64) Oo,trivial⟩,⟨by omega,hany _ (by simp[inP];omega),hm⟩,by omega⟩
 ·refine⟨Af Value.bool ?_,hm.ext⟩;rw[<-q2r,<-h2,AF (show 14<=i by omega)]
theorem qgj(r:Int)(w:Ez):Gv EG 190 [ii r] w fun v w'=>v=.bool (qgo r)/\Ext w w':=by
 refine ze Tryz.func190 Tryz.ntmps190 ?_;refine zcv (qts r w) ?_;rintro v w1 ⟨rfl,he⟩;(conv=>whnf);unfold qgo;cases qjx r
 ·refine zv ?_
  all_goals(refine⟨Af Value.bool ?_,he⟩;rw[AV];simp;try omega)
 ·refine zv ?_
  all_goals(refine⟨Af Value.bool ?_,he⟩;rw[AV];simp;try omega)
theorem qhv(r:Int)(w:Ez):Gv EG 191 [ii r] w fun v w'=>v=.bool (digN r)/\w'=w:=by
 refine ze Tryz.func191 Tryz.ntmps191 ?_;refine zC (fun _=>zu ?_) (fun _=>zu ?_)
 all_goals(refine⟨Af Value.bool ?_,rfl⟩;rw[AV];simp[digN];try omega)
theorem qlm(r:Int)(w:Ez):Gv EG 244 [ii r] w fun v w'=>v=.bool (qds r)/\Ext w w':=by
 refine ze Tryz.func244 Tryz.ntmps244 ?_;refine zcv (qgj r w) ?_;rintro v w1 ⟨rfl,he⟩;(conv=>whnf);unfold qds;cases qgo r
 ·refine zt ?_;refine zC (fun _=>zu ?_) (fun _=>zu ?_)
  all_goals try (
   refine zcv (qhv r w1) ?_;rintro v w2 ⟨rfl,rfl⟩;(conv=>whnf))
  all_goals cases hd:digN r
  all_goals(repeat'(first|refine zp ?_|refine zC (fun _=>zw ?_) (fun _=>zw ?_)))
  all_goals(refine⟨Af Value.bool ?_,he⟩;rw[AV];simp;try omega)
 ·refine zv ?_
  all_goals(refine⟨Af Value.bool ?_,he⟩;rw[AV];simp;try omega)
theorem qt3(s:E0)(hs:s.size<=4000000000000)(w:Ez):
  Gv EG 189 [.string s] w fun v w'=>((scal s.data.toList=none/\v=.tuple #[.slice none 0 0,.bool false])\/
   (∃l A c,scal s.data.toList=some l/\v=.tuple #[.slice A l.length c,.bool true]/\SlAt zeI 1 w' A (l.map Int.ofNat)/\l.length<=s.size))/\Ext w w':=by
 refine ze Tryz.func189 Tryz.ntmps189 ?_;refine qj (fun x:Nat×List Int×oA×Nat=>[(0,.string s),(4,.slice x.2.2.1 x.2.1.length x.2.2.2),(5,ii x.1)])
  (fun x w2=>x.1<=s.size/\x.2.1.length<=x.1/\Rw w w2 (.slice x.2.2.1 x.2.1.length x.2.2.2) 3 1 x.2.1.length (x.2.1.map (Value.int .i64)) []/\(scal s.data.toList).map (·.map Int.ofNat)=(scal (s.data.toList.drop x.1)).map fun l=>x.2.1++l.map Int.ofNat)
  (fun x=>s.size-x.1) (0,[],none,0) fq ⟨by simp,by simp,Rw.nil (Mem.nil w),by simp⟩ ?_
 rintro⟨i,zs,B,d⟩ w2 ρ' ⟨h1,h2,hR,h3⟩;simp only at h1 h2 hR h3;dsimp only;(conv=>whnf);refine zC (fun _=>zw ?_) (fun _=>zw ?_)
 ·refine zcv (qln s i Oo Oo w2) ?_;rintro v w3 ⟨rfl,he⟩;have hle:=qij (s.data.toList.drop i);rw[qec]at hle;have hR3:=hR.call he;(conv=>whnf);refine zC (fun _=>zw ?_) (fun _=>zw ?_)
  ·refine⟨.inl ⟨?_,rfl⟩,hR3.mem.ext⟩;rw[qhy (qim s i Oo) Oo]at h3;cases hsc:scal s.data.toList with
   | none=>rfl
   | some l=>rw[hsc]at h3;cases h3
  ·refine NewV.rw hR3 fun nb w4 hR4=>zw ?_;refine AppV.one (i:=_) (z:=ii 0) Tryz.underlying38 (Bn Jk).symm Jk Jk rfl (by decide +kernel) hR4 rfl Oo ?_;intro B' d' w5 hR5;refine zu ?_;refine⟨(i+(decN (s.data.toList.drop i)).2,zs++[((decN (s.data.toList.drop i)).1:Int)],B',d'),⟨rfl,by simp only[zla];rfl,rfl,trivial⟩,⟨by simp only;omega,by simp only[zla,AZ];omega,?_,?_⟩,by simp only;omega⟩
   ·simp only[zla,AZ,AB,AO,BM];exact hR5
   ·simp only;rw[h3,qfm (qim s i Oo) Oo,AM];cases scal (s.data.toList.drop (i+(decN (s.data.toList.drop i)).2))with
    | none=>rfl
    | some l=>simp
 ·refine⟨?_,hR.mem.ext⟩;rw[Be Ys,scal]at h3;cases hsc:scal s.data.toList with
  | none=>rw[hsc]at h3;cases h3
  | some l=>
   rw[hsc]at h3;simp at h3;subst h3;refine .inr ⟨l,B,d,rfl,by simp,?_,by simpa using AU h2 h1⟩;exact hR.ints
theorem qc1{q:E7->Bool}(s:E0)(p:Nat)(hp:p<s.size):(s.data.toList.take (p+1)).all q=((s.data.toList.take p).all q&&q (gb s p)):=by
 rw[qon (by simpa using hp),DR];simp[gb]
def digA(s:E0):Bool:=s.data.toList.all fun c=>digN c.toNat
def letA(s:E0):Bool:=s.data.toList.all fun c=>letN c.toNat
theorem qz8(hi:i<s.size)(h:digN (gb s i).toNat=false):digA s=false:=by
 rw[digA,DE];exact⟨gb s i,by rw[gb,Ag,zge (by simpa using hi)];exact AT _,by simpa using h⟩
theorem qaae(hi:i<s.size)(h:letN (gb s i).toNat=false):letA s=false:=by
 rw[letA,DE];exact⟨gb s i,by rw[gb,Ag,zge (by simpa using hi)];exact AT _,by simpa using h⟩
theorem qff(s:E0)(hs:s.size<=140737488355328)(w:Ez):Gv EG 300 [.string s] w fun v w'=>v=.bool (digA s)/\w'=w:=by
 refine ze Tryz.func300 Tryz.ntmps300 ?_;refine qj (fun i:Nat=>[(0,.string s),(3,ii i)]) (fun i w1=>i<=s.size/\(s.data.toList.take i).all (fun c=>digN c.toNat)=true/\w1=w) (fun i=>s.size-i) 0 fq ⟨by omega,rfl,rfl⟩ ?_;rintro i w1 ρ' ⟨h1,h2,rfl⟩;conv=>whnf
 (repeat'(first|refine zp ?_|refine zC (fun _=>zw ?_) (fun _=>zw ?_)))
 ·exact⟨by rw[qz8 (i:=i) Oo (by simp[digN];omega)],rfl⟩
 ·exact⟨by rw[qz8 (i:=i) Oo (by simp[digN];omega)],rfl⟩
 ·exact⟨i+1,fq,⟨by omega,by rw[qc1 s i Oo,h2];simp[digN];omega,rfl⟩,by omega⟩
 ·rw[AF Ys]at h2;exact⟨by rw[digA,h2],rfl⟩
theorem qk3(s:E0)(hs:s.size<=140737488355328)(w:Ez):Gv EG 301 [.string s] w fun v w'=>v=.bool (letA s)/\w'=w:=by
 refine ze Tryz.func301 Tryz.ntmps301 ?_;refine qj (fun i:Nat=>[(0,.string s),(3,ii i)]) (fun i w1=>i<=s.size/\(s.data.toList.take i).all (fun c=>letN c.toNat)=true/\w1=w) (fun i=>s.size-i) 0 fq ⟨by omega,rfl,rfl⟩ ?_;rintro i w1 ρ' ⟨h1,h2,rfl⟩;conv=>whnf
 (repeat'(first|refine zp ?_|refine zC (fun _=>zw ?_) (fun _=>zw ?_)))
 all_goals first
  | exact⟨by rw[qaae (i:=i) Oo (by simp[letN];omega)],rfl⟩
  | exact⟨i+1,fq,⟨by omega,by rw[qc1 s i Oo,h2];simp[letN];omega,rfl⟩,by omega⟩
  | (rw[AF Ys]at h2;exact⟨by rw[letA,h2],rfl⟩)
theorem q19(h:i<s.size):(s.extract i (i+1)).data.toList=[gb s i]:=by
 have:(s.extract i (i+1)).data.toList=(s.data.toList.drop i).take 1:=by
  rw[De,Array.toList_extract,List.extract_eq_take_drop,Dc]
 rw[this,qay s i h];rfl
theorem qwf(h:i<s.size):(s.extract i (i+1)).size=1:=by
 rw[Cy];omega
theorem qaa2(h:i<s.size):letA (s.extract i (i+1))=letN (gb s i).toNat:=by rw[letA,q19 h];simp
theorem q18(h:i<s.size):digA (s.extract i (i+1))=digN (gb s i).toNat:=by rw[digA,q19 h];simp
theorem q5y{p:Bool}(hi':i<s.size)(h:alnB p (gb s i)=false):q6 s lo hi p=false:=by
 have:s.data.toList.all (alnB p)=false:=by
  rw[DE];exact⟨gb s i,by rw[gb,Ag,zge (by simpa using hi')];exact AT _,by simpa using h⟩
 rw[q6,this];rfl
theorem qg5(s:E0)(lo hi:Nat)(hs:s.size<=140737488355328)(w:Ez):Gv EG 251 [.string s,ii lo,ii hi] w fun v w'=>v=.bool (q6 s lo hi false)/\w'=w:=by
 refine ze Tryz.func251 Tryz.ntmps251 ?_;refine qj (fun i:Nat=>[(0,.string s),(1,ii lo),(2,ii hi),(7,ii i)]) (fun i w1=>i<=s.size/\(s.data.toList.take i).all (alnB false)=true/\w1=w) (fun i=>s.size-i) 0 fq ⟨by omega,rfl,rfl⟩ ?_;rintro i w1 ρ' ⟨h1,h2,rfl⟩;conv=>whnf
 (repeat'(first|refine zp ?_|refine zC (fun _=>zw ?_) (fun _=>zw ?_)))
 ·have hi:i<s.size:=by omega
  have hsz:=qwf hi;refine⟨i,i+1,rfl,rfl,by omega,by omega,?_⟩;(conv=>whnf);refine zcv (qk3 (s.extract i (i+1)) Oo w1) ?_;rintro v w2 ⟨rfl,rfl⟩;rw[qaa2 hi];cases hl:letN (gb s i).toNat
  ·refine zu ?_;refine⟨i,i+1,rfl,rfl,by omega,by omega,?_⟩;refine zu ?_;refine zcv (qff (s.extract i (i+1)) Oo w2) ?_;rintro v w3 ⟨rfl,rfl⟩;rw[q18 hi];cases hd:digN (gb s i).toNat
   ·refine zu ?_;exact⟨by rw[q5y hi (by rw[alnB,hl,hd];rfl)],rfl⟩
   ·refine zu ?_;exact⟨i+1,fq,⟨by omega,by rw[qc1 s i hi,h2,alnB,hl,hd];rfl,rfl⟩,by omega⟩
  ·refine zu ?_;exact⟨i+1,fq,⟨by omega,by rw[qc1 s i hi,h2,alnB,hl];rfl,rfl⟩,by omega⟩
 all_goals
  rw[AF Ys]at h2;have hM:q6 s lo hi false=decide (lo<=s.size/\s.size<=hi):=by rw[q6,h2];rfl
 ·exact⟨Af Value.bool (by rw[hM,AV];simp;omega),rfl⟩
 ·exact⟨Af Value.bool (by rw[hM,eq_comm,decide_eq_false_iff_not];omega),rfl⟩
theorem qmh(s:E0)(hs:s.size<=140737488355328)(w:Ez):Gv EG 250 [.string s] w fun v w'=>v=.bool (varB s)/\w'=w:=by
 refine ze Tryz.func250 Tryz.ntmps250 ?_;refine zcv (qg5 s 5 8 hs w) ?_;rintro v w1 ⟨rfl,rfl⟩;cases m1:q6 s 5 8 false
 ·refine zu ?_;refine zcv (qg5 s 4 4 hs w1) ?_;rintro v w2 ⟨rfl,rfl⟩;cases m2:q6 s 4 4 false
  ·refine zu ?_;exact⟨by rw[varB,m1,m2];rfl,rfl⟩
  ·have hsz:s.size=4:=by
    simp[q6]at m2;omega
   have h1:=qwf (s:=s) (i:=0) Oo;refine zu ?_;refine⟨0,1,rfl,rfl,by omega,by omega,?_⟩;refine zu ?_;refine zcv (qff (s.extract 0 1) (by show(s.extract 0 (0+1)).size<=_;omega) w2) ?_;rintro v w3 ⟨rfl,rfl⟩;refine zu ?_;exact⟨by rw[varB,m1,m2,q18 (s:=s) (i:=0) Oo];rfl,rfl⟩
 ·refine zu ?_;exact⟨by rw[varB,m1];rfl,rfl⟩
def glue(cur:LB):List LB->List LB
 | []=>[]
 | p::ps=>(cur++p)::ps
theorem qli:∀l:LB,∃p ps,qbq l=p::ps
 | []=>⟨_,_,rfl⟩
 | c::t=>by
  unfold qbq
  split
  ·exact⟨_,_,rfl⟩
  ·split<;>exact⟨_,_,rfl⟩
theorem q0u(cur t:LB):glue cur (qbq (45::t))=[cur]++glue [] (qbq t):=by
 obtain⟨p,ps,h⟩:=qli t;rw[qbq,Ad rfl,h];simp[glue]
theorem q0v(cur t:LB){c:E7}(hc:c≠45):glue cur (qbq (c::t))=glue (cur++[c]) (qbq t):=by
 obtain⟨p,ps,h⟩:=qli t;rw[qbq,Aa hc,h];simp[glue]
theorem qof(s:E0)(a b:Nat):(s.extract a b).data.toList=(s.data.toList.drop a).take (b-a):=by
 rw[De,Array.toList_extract,List.extract_eq_take_drop]
theorem qoa:∀{l m:List E0},l.map (·.data.toList)=m.map (·.data.toList)->l=m
 | [],[],_=>rfl
 | [],_::_,h=>by simp at h
 | _::_,[],h=>by simp at h
 | a::l,b::m,h=>by
  simp only[AO,List.cons.injEq]at h;obtain⟨h1,h2⟩:=h;obtain⟨⟨a⟩⟩:=a;obtain⟨⟨b⟩⟩:=b;simp only at h1;rw[h1,qoa h2]
theorem qy8:EG.underlying 140=some (.slice 9):=Tryz.underlying140
theorem qrz(s:E0)(hs:s.size<=1000000)(w:Ez):
  Gv EG 245 [.string s] w fun v w'=>∃A c,v=.slice A (qbf s).length c/\Rw w w' (.slice A (qbf s).length c) 9 1 (qbf s).length ((qbf s).map Value.string) []:=by
 obtain⟨L,hL⟩:∃L,L=s.data.toList:=⟨_,rfl⟩
 have hLl:L.length=s.size:=by rw[hL];simp
 have fin:∀done:List E0,qbq L=done.map (·.data.toList)->done=qbf s:=fun done h=>qoa (by rw[<-h,hL,qlj])
 refine ze Tryz.func245 Tryz.ntmps245 ?_;refine qj (fun x:Nat×Nat×List E0×oA×Nat=>[(0,.string s),(3,.slice x.2.2.2.1 x.2.2.1.length x.2.2.2.2),(4,ii x.2.1),(5,ii x.1)])
  (fun x w2=>x.1<=s.size/\x.2.1<=x.1/\x.2.2.1.length<=x.1/\Rw w w2 (.slice x.2.2.2.1 x.2.2.1.length x.2.2.2.2) 9 1 x.2.2.1.length (x.2.2.1.map Value.string) []/\
   qbq L=x.2.2.1.map (·.data.toList)++glue ((L.drop x.2.1).take (x.1-x.2.1)) (qbq (L.drop x.1)))
  (fun x=>s.size-x.1) (0,0,[],none,0) fq ⟨by simp,by simp,by simp,Rw.nil (Mem.nil w),by
   obtain⟨p,ps,h⟩:=qli L;simp[glue,h]⟩ ?_
 rintro⟨i,fr,done,B,d⟩ w2 ρ' ⟨h1,h2,h3,hR,h4⟩;simp only at h1 h2 h3 hR h4;dsimp only;conv=>whnf
 (repeat'(first|refine zp ?_|refine zC (fun _=>zw ?_) (fun _=>zw ?_)))
 ·have hi:i<s.size:=by omega
  have hdrop:L.drop i=gb s i::L.drop (i+1):=by rw[hL];exact qay s i hi
  rw[hdrop,show gb s i=45 by rw[<-D9];show _=45;omega,q0u]at h4;refine⟨fr,i,rfl,rfl,by omega,by omega,?_⟩;(conv=>whnf);refine NewV.rw hR fun nb w4 hR4=>zw ?_;refine AppV.one qy8 strI strZ Jk rfl (by decide +kernel) hR4 rfl Oo ?_;intro B' d' w5 hR5;refine zu ?_;refine⟨(i+1,i+1,done++[s.extract fr i],B',d'),⟨rfl,by simp only[zla];rfl,rfl,rfl,trivial⟩,⟨by simp only;omega,by simp only;omega,by simp;omega,?_,?_⟩,by simp only;omega⟩
  ·simp only[zla,AZ,AB,AO,BM];exact hR5
  ·simp only[AB,AO,BM,qof,CE,Bz];rw[h4,<-hL,Ak]
 ·have hi:i<s.size:=by omega
  have hdrop:L.drop i=gb s i::L.drop (i+1):=by rw[hL];exact qay s i hi
  have hc:gb s i≠45:=fun e=>by
   have:(gb s i).toNat=45:=by rw[e];rfl
   omega
  rw[hdrop,q0v _ _ hc]at h4;refine⟨(i+1,fr,done,B,d),fq,⟨by simp only;omega,by simp only;omega,by simp only;omega,hR,?_⟩,by simp only;omega⟩;simp only;rw[h4]
  congr 2
  have e:i+1-fr=(i-fr)+1:=by omega
  rw[e,BJ]
  congr 1
  rw[Cr,show fr+(i-fr)=i by omega];have:=Af List.head? hdrop;rw[List.head?_drop]at this;rw[this];rfl
 ·rw[Be (show L.length<=i by omega)]at h4;refine⟨fr,s.size,rfl,rfl,by omega,by omega,?_⟩;(conv=>whnf);refine NewV.rw hR fun nb w4 hR4=>zw ?_;refine AppV.one qy8 strI strZ Jk rfl (by decide +kernel) hR4 rfl Oo ?_;intro B' d' w5 hR5;(conv=>whnf);have hd:=fin (done++[s.extract fr s.size]) (by
   rw[h4];simp only[AB,AO,BM,qof,<-hL,show i=s.size by omega];simp[glue,qbq])
  rw[<-hd];have hR6:Rw w w5 (.slice B' (done++[s.extract fr s.size]).length d') 9 1 (done++[s.extract fr s.size]).length ((done++[s.extract fr s.size]).map Value.string) []:=by
   simp only[zla,AZ,AB,AO,BM];exact hR5
  exact⟨B',d',by rw[zla];rfl,hR6⟩
def jn:List E0->LB
 | []=>[]
 | x::xs=>x.data.toList++xs.flatMap fun y=>45::y.data.toList
theorem q98(l:List E0)(x:E0):jn (l++[x])=if l=[]then x.data.toList else jn l++([45]++x.data.toList):=by
 cases l with
 | nil=>simp[jn]
 | cons y ys=>simp[jn]
theorem qvj:∀(l:List E0),(∀x∈l,x.size<=1000000)->(l.flatMap fun y=>(45:E7)::y.data.toList).length<=l.length*1000001
 | [],_=>by simp
 | x::l,h=>by
  have:=qvj l fun y hy=>h y (zmc hy)
  have hx:=h x mh;have e:x.data.toList.length=x.size:=by simp
  rw[List.flatMap_cons,zla,As,As,e];omega
theorem qac9(l:List E0)(h:∀x∈l,x.size<=1000000):(jn l).length<=l.length*1000001:=by
 cases l with
 | nil=>simp[jn]
 | cons x l=>
  have:=qvj l fun y hy=>h y (zmc hy)
  have hx:=h x mh;have e:x.data.toList.length=x.size:=by simp
  rw[jn,zla,As,e];omega
theorem qfy(l:List E0)(A:oA)(c:Nat)(w:Ez)(hS:SlAt V.zeS 1 w A l)(hx:∀x∈l,x.size<=1000000)(hn:l.length<=1000000):
  Gv EG 299 [.slice A l.length c] w fun v w'=>v=.string ⟨(jn l).toArray⟩/\Ext w w':=by
 refine ze Tryz.func299 Tryz.ntmps299 ?_;refine qj (fun x:Nat×oA×Nat=>[(0,.slice A l.length c),(3,.slice x.2.1 (jn (l.take x.1)).length x.2.2),(4,ii x.1)])
  (fun x w2=>x.1<=l.length/\Rw w w2 (.slice x.2.1 (jn (l.take x.1)).length x.2.2) 5 1 (jn (l.take x.1)).length (byteCells (jn (l.take x.1))) [])
  (fun x=>l.length-x.1) (0,none,0) fq ⟨by simp,Rw.nil (Mem.nil w)⟩ ?_
 rintro⟨k,B,d⟩ w2 ρ' ⟨h1,hR⟩;simp only at h1 hR;dsimp only;have hlen:=qac9 (l.take k) (fun x hxx=>hx x (CX hxx));rw[AG]at hlen;conv=>whnf
 (repeat' refine zC (fun _=>zw ?_) (fun _=>zw ?_))
 ·have hk:k<l.length:=by omega
  refine NewV.rw hR fun nb w4 hR4=>zw ?_;refine AppV.one (i:=_) (z:=.int .u8 0) Tryz.underlying60 (Bn Jk).symm Jk Jk rfl (by decide +kernel) hR4 rfl Oo ?_;intro B' d' w5 hR5;(conv=>whnf);refine ElemV.sl (hS.ext hR5.mem.ext) rfl k rfl hk ?_;intro b off hc;refine LoadV.cell0 hc (zw ?_);have hxk:=hx _ (AT hk);refine AppV.rwS (i:=_) Tryz.underlying60 Tryz.underlying9 (Bn Jk).symm Jk Jk Jk hR5 (fun x hx c fz=>by simp at hx) Oo fun v' w6 hR6=>?_;obtain⟨A',c',rfl⟩:=hR6.slice;refine zu ?_;have e:jn (l.take (k+1))=jn (l.take k)++([45]++(l[k]).data.toList):=by
   rw[Bm hk,q98,Aa (by intro e;have h9:=Af List.length e;rw[AG,BP]at h9;omega)]
  have el:(jn (l.take (k+1))).length=(jn (l.take k)).length+1+(l[k]).size:=by rw[e];simp;omega
  refine⟨(k+1,A',c'),⟨rfl,by simp only[el];rfl,rfl,trivial⟩,⟨by simp only;omega,?_⟩,by simp only;omega⟩;simp only;rw[el,e,qbt,qbt,<-Ak];exact hR6
 ·have hk:k<l.length:=by omega
  obtain rfl:k=0:=by omega
  refine ElemV.sl (hS.ext hR.mem.ext) rfl 0 rfl hk ?_;intro b off hc;refine LoadV.cell0 hc (zw ?_);have hxk:=hx _ (AT hk);refine AppV.rwS (i:=_) Tryz.underlying60 Tryz.underlying9 (Bn Jk).symm Jk Jk Jk hR (fun x hx c fz=>by simp at hx) Oo fun v' w6 hR6=>?_;obtain⟨A',c',rfl⟩:=hR6.slice;refine zu ?_;have e:jn (l.take (0+1))=jn (l.take 0)++(l[0]).data.toList:=by
   rw[Bm hk];simp[jn]
  have el:(jn (l.take (0+1))).length=(jn (l.take 0)).length+(l[0]).size:=by rw[e];simp
  refine⟨(1,A',c'),⟨rfl,by simp only[el];rfl,rfl,trivial⟩,⟨by simp only;omega,?_⟩,by simp only;omega⟩;simp only;rw[show(1:Nat)=0+1 from rfl,el,e,qbt];exact hR6
 ·obtain rfl:k=l.length:=by omega
  rw[Bg]at hR|-;refine BytesS.rw hR (zw ?_);exact⟨rfl,hR.mem.ext⟩
theorem qe9{t:E6}{v:E8}{K:EC}(hm:Mem w0 w L)(hi:(b,Obj.cells cs t)∈L)(ho:off<cs.size)(h1:qcx v=true)(hk:∀w' L',Mem w0 w' L'->(b,Obj.cells (cs.setIfInBounds off v) t)∈L'->(∀y∈L,y.1≠b->y∈L')->K w'):StoreV w b off v K:=by
 obtain⟨i,hi⟩:=Bi.1 hi;exact StoreV.mem hm hi ho h1 fun w' h=>hk w' _ h (qfn hi).1 (qfn hi).2
theorem V.SliceV.tailA{n:Nat}{k:IntKind}{K:E8->Prop}(hA:A=some ⟨g,off,none⟩)(hn:n=m+1)(hc:n<=c)(hk:∀A' c',(m≠0->A'=some ⟨g,off+1,none⟩)->m<=c'->K (.slice A' m c')):SliceV 1 A n c (some (.int k 1)) none none K:=by
 subst hn hA;refine⟨1,m+1,c,rfl,rfl,rfl,by omega,by omega,by omega,fun h=>by simp at h,fun A' hA'=>?_⟩;have hk:=hk A' (c-1) (fun hne=>?_) Oo
 ·simpa using hk
 ·rw[Aa Oo]at hA';rw[hA'];show some ((⟨g,off,none⟩:Addr).add (1*1))=_;rw[qan]
structure RQ0(w0 w:Ez)(O:EF)(rb tb:Nat)(rest:List E0)(a0:E0)(vs es:List E0)(A:oA)(c:Nat)(X Y T4 T5:E8)(a1 a2 a3 a6:E0)(L:ED)(R2:List (EE×E8)):Prop where
 mem:Mem w0 w L
 rd:(rb,Obj.cells #[.slice A rest.length c] 346)∈L
 tg:(tb,Obj.cells (tagC a0 a1 a2 a3 T4 T5 a6).toArray 278)∈L
 rows:RowsP 9 O L ((vs.map Value.string,X)::(es.map Value.string,Y)::R2)
 sl:rest≠[]->∃g cur off,A=some ⟨g,off,none⟩/\g∈O/\g≠rb/\g≠tb/\(g,Obj.cells cur 9)∈L/\∀(j:Nat) x,rest[j]?=some x->cur[off+j]?=some (Value.string x)
 hc:rest.length<=c
 hrb:rb∈O
 htb:tb∈O
 ne:rb≠tb
 all:∀g∈O,∃o,(g,o)∈L
 small:∀x∈rest,x.size<=1000000
def RQ(w0 w:Ez)(O:EF)(rb tb:Nat)(rest:List E0)(a0:E0)(vs es:List E0)(R2:List (EE×E8)):Prop:=
 ∃A c X Y a1 a2 a3 a6 L,RQ0 w0 w O rb tb rest a0 vs es A c X Y X Y a1 a2 a3 a6 L R2
section
variable {w0 w w':Ez} {O:EF} {rb tb:Nat} {rest:List E0} {a0:E0} {vs es:List E0} {R2:List (EE×E8)}
theorem RQ.call(h:RQ w0 w O rb tb rest a0 vs es R2)(he:Ext w w'):RQ w0 w' O rb tb rest a0 vs es R2:=by
 obtain⟨A,c,X,Y,a1,a2,a3,a6,L,h⟩:=h;exact⟨A,c,X,Y,a1,a2,a3,a6,L,{ h with mem:=h.mem.call he }⟩
theorem RQ.drew(h:RQ w0 w O rb tb rest a0 vs es R2):RQ w0 w.drew O rb tb rest a0 vs es R2:=h.call (Ext.refl w).drew
theorem RQ.ext(h:RQ w0 w O rb tb rest a0 vs es R2):Ext w0 w:=by
 obtain⟨A,c,X,Y,a1,a2,a3,a6,L,h⟩:=h;exact h.mem.ext
theorem RQ.small(h:RQ w0 w O rb tb rest a0 vs es R2):∀x∈rest,x.size<=1000000:=by
 obtain⟨A,c,X,Y,a1,a2,a3,a6,L,h⟩:=h;exact h.small
theorem RQ0.slAt{X Y T4 T5:E8}{a1 a2 a3 a6:E0}(h:RQ0 w0 w O rb tb rest a0 vs es A c X Y T4 T5 a1 a2 a3 a6 L R2):SlAt V.zeS 1 w A rest:=by
 refine⟨fun hne=>?_⟩;obtain⟨g,cur,off,rfl,_,_,_,hg,hx⟩:=h.sl hne;refine⟨g,off,rfl,fun j x hj k v hv=>?_⟩;cases k with
 | succ k=>simp[V.zeS]at hv
 | zero=>
  simp only[V.zeS,B9,Bp]at hv;subst hv;rw[qa (h.mem.get hg),BH,Bk];exact hx j x hj
theorem RQ.ldr{K:E8->Prop}(h:RQ w0 w O rb tb rest a0 vs es R2)(hk:∀A c,SlAt V.zeS 1 w A rest->rest.length<=c->K (.slice A rest.length c)):LoadV w rb 0 K:=by
 obtain⟨A,c,X,Y,a1,a2,a3,a6,L,h⟩:=h;exact LoadV.own (h.mem.get h.rd) rfl (hk A c h.slAt h.hc)
theorem RQ.ld0{K:E8->Prop}(h:RQ w0 w O rb tb rest a0 vs es R2)(hk:K (.string a0)):LoadV w tb 0 K:=by
 obtain⟨A,c,X,Y,a1,a2,a3,a6,L,h⟩:=h;exact LoadV.own (h.mem.get h.tg) rfl hk
theorem RQ0.tag{X Y T4 T5:E8}{a1 a2 a3 a6 b0 b1 b2 b3 b6:E0}(h:RQ0 w0 w O rb tb rest a0 vs es A c X Y T4 T5 a1 a2 a3 a6 L R2)(hm:Mem w0 w' L')(ht:(tb,Obj.cells (tagC b0 b1 b2 b3 X Y b6).toArray 278)∈L')(hk:∀y∈L,y.1≠tb->y∈L'):RQ w0 w' O rb tb rest b0 vs es R2:=by
 refine⟨A,c,X,Y,b1,b2,b3,b6,L',hm,hk _ h.rd h.ne,ht,h.rows.keep fun y hy hO=>hk y hy fun e=>hO (e ▸ h.htb),fun hne=>?_,h.hc,h.hrb,h.htb,h.ne,fun g hg=>?_,h.small⟩
 ·obtain⟨g,cur,off,h1,h2,h3,h4,h5,h6⟩:=h.sl hne;exact⟨g,cur,off,h1,h2,h3,h4,hk _ h5 h4,h6⟩
 ·by_cases e:g=tb
  ·subst e;exact⟨_,ht⟩
  ·obtain⟨o,ho⟩:=h.all g hg;exact⟨o,hk _ ho e⟩
theorem RQ.st{K:EC}(h:RQ w0 w O rb tb rest a0 vs es R2)(hk:k=1\/k=2\/k=3\/k=6)(s:E0)(hK:∀w',RQ w0 w' O rb tb rest a0 vs es R2->K w'):StoreV w tb k (.string s) K:=by
 obtain⟨A,c,X,Y,a1,a2,a3,a6,L,h⟩:=h;have hlt:k<(tagC a0 a1 a2 a3 X Y a6).toArray.size:=by simp[tagC];omega
 refine qe9 h.mem h.tg hlt rfl fun w' L' hm ht hkp=>hK w' ?_
 rcases hk with rfl|rfl|rfl|rfl
 all_goals exact h.tag hm ht hkp
theorem RQ.st0{K:EC}(h:RQ w0 w O rb tb rest a0 vs es R2)(s:E0)(hK:∀w',RQ w0 w' O rb tb rest s vs es R2->K w'):StoreV w tb 0 (.string s) K:=by
 obtain⟨A,c,X,Y,a1,a2,a3,a6,L,h⟩:=h;exact qe9 h.mem h.tg (by simp[tagC]) rfl fun w' L' hm ht hkp=>hK w' (h.tag hm ht hkp)
end
section
variable {w0 w w':Ez} {O:EF} {rb tb:Nat} {rest:List E0} {a0:E0} {vs es:List E0} {R2:List (EE×E8)} {X Y T4 T5:E8} {A:oA} {c:Nat} {a1 a2 a3 a6:E0} {L L':ED}
theorem RQ0.call(h:RQ0 w0 w O rb tb rest a0 vs es A c X Y T4 T5 a1 a2 a3 a6 L R2)(he:Ext w w'):RQ0 w0 w' O rb tb rest a0 vs es A c X Y T4 T5 a1 a2 a3 a6 L R2:={ h with mem:=h.mem.call he }
theorem RQ0.grow{X' Y':E8}{vs' es':List E0}(h:RQ0 w0 w O rb tb rest a0 vs es A c X Y T4 T5 a1 a2 a3 a6 L R2)(hm:Mem w0 w' L')(hR:RowsP 9 O L' ((vs'.map Value.string,X')::(es'.map Value.string,Y')::R'))(hk:∀y∈L,y.1∈O->y∈L'):RQ0 w0 w' O rb tb rest a0 vs' es' A c X' Y' T4 T5 a1 a2 a3 a6 L' R':=by
 refine⟨hm,hk _ h.rd h.hrb,hk _ h.tg h.htb,hR,fun hne=>?_,h.hc,h.hrb,h.htb,h.ne,fun g hg=>?_,h.small⟩
 ·obtain⟨g,cur,off,h1,h2,h3,h4,h5,h6⟩:=h.sl hne;exact⟨g,cur,off,h1,h2,h3,h4,hk _ h5 h2,h6⟩
 ·obtain⟨o,ho⟩:=h.all g hg;exact⟨o,hk _ ho hg⟩
theorem V.RowsP.nilrow{R:List (EE×E8)}(h:RowsP e O L R):RowsP e O L (R++[([],.slice none 0 0)]):=by
 have back:∀(k:Nat) p,(R++[([],Value.slice none 0 0)])[k]?=some p->R[k]?=some p\/p=([],.slice none 0 0):=fun k p hp=>by
  rw[DG]at hp
  split at hp
  ·exact .inl hp
  ·exact .inr (by have:=zmg hp;simpa using this)
 refine⟨fun k p hp=>?_,fun k p g hp hg=>?_,fun k k' p p' g hp hp' hne hg=>?_⟩
 ·rcases back k p hp with hp|rfl
  ·exact h.row k p hp
  ·exact RowB.nil e L
 ·rcases back k p hp with hp|rfl
  ·exact h.out k p g hp hg
  ·cases hg
 ·rcases back k p hp with hp|rfl
  ·rcases back k' p' hp' with hp' | rfl
   ·exact h.ap k k' p p' g hp hp' hne hg
   ·intro hg';cases hg'
  ·cases hg
theorem V.RowsP.newrow{R:List (EE×E8)}(h:RowsP e O L R)(hb:∀y∈L,y.1≠b)(hO:b∉O):RowsP e O ((b,.cells #[x] e)::L) (R++[([x],.slice (some ⟨b,0,none⟩) 1 1)]):=by
 have back:∀(k:Nat) p,(R++[([x],Value.slice (some ⟨b,0,none⟩) 1 1)])[k]?=some p->R[k]?=some p\/(k=R.length/\p=([x],.slice (some ⟨b,0,none⟩) 1 1)):=fun k p hp=>by
  rw[DG]at hp
  split at hp
  ·exact .inl hp
  ·obtain⟨h1,h2⟩:=Ae.1 hp;simp at h1;have:k-R.length=0:=by omega
   refine .inr ⟨by omega,?_⟩
   simpa[this]using h2.symm
 have fresh:∀(k:Nat) p,R[k]?=some p->p.2.ownBlock≠some b:=fun k p hp hg=>by
  obtain⟨o,hin⟩:=(h.row k p hp).in_ hg;exact hb _ hin rfl
 refine⟨fun k p hp=>?_,fun k p g hp hg=>?_,fun k k' p p' g hp hp' hne hg=>?_⟩
 ·rcases back k p hp with hp|⟨_,rfl⟩
  ·exact(h.row k p hp).keep fun y hy _=>zmc hy
  ·exact⟨.inr ⟨b,1,#[x],rfl,AK ..,Aq _,by decide,rfl,rfl⟩⟩
 ·rcases back k p hp with hp|⟨_,rfl⟩
  ·exact h.out k p g hp hg
  ·cases hg;exact hO
 ·rcases back k p hp with hp|⟨e1,rfl⟩<;>rcases back k' p' hp' with hp' | ⟨e2,rfl⟩
  ·exact h.ap k k' p p' g hp hp' hne hg
  ·intro hg';cases hg';exact fresh k p hp hg
  ·cases hg;exact fresh k' p' hp'
  ·exact absurd (e1.trans e2.symm) hne
theorem V.RowsP.cut{R:List (EE×E8)}(h:RowsP e O L (R++R')):RowsP e O L R:=by
 have up:∀(k:Nat) p,R[k]?=some p->(R++R')[k]?=some p:=fun k p hp=>by
  rw[AQ (Ae.1 hp).1,hp]
 exact⟨fun k p hp=>h.row k p (up k p hp),fun k p g hp hg=>h.out k p g (up k p hp) hg,fun k k' p p' g hp hp' hne hg=>h.ap k k' p p' g (up k p hp) (up k' p' hp') hne hg⟩
theorem RQ.nilrow(h:RQ w0 w O rb tb rest a0 vs es []):RQ w0 w O rb tb rest a0 vs es [([],.slice none 0 0)]:=by
 obtain⟨A,c,X,Y,a1,a2,a3,a6,L,h⟩:=h;exact⟨A,c,X,Y,a1,a2,a3,a6,L,{ h with rows:=h.rows.nilrow }⟩
theorem RQ.cut(h:RQ w0 w O rb tb rest a0 vs es R2):RQ w0 w O rb tb rest a0 vs es []:=by
 obtain⟨A,c,X,Y,a1,a2,a3,a6,L,h⟩:=h;exact⟨A,c,X,Y,a1,a2,a3,a6,L,{ h with rows:=RowsP.cut (R:=[(vs.map Value.string,X),(es.map Value.string,Y)]) (R':=R2) h.rows }⟩
theorem NewV.rq{o:Obj}{K:Nat->EC}(h:RQ w0 w O rb tb rest a0 vs es R2)(hk:∀b w',RQ w0 w' O rb tb rest a0 vs es R2->w'.heap[b]?=some o->K b w'):NewV w o K:=
 ⟨fun b w' hb hw=>hk b w' (h.call (by subst hw;exact(Ext.refl w).alloc o)) (by subst hb hw;exact heap_alloc_new w o)⟩
theorem NewV.rq0{o:Obj}{K:Nat->EC}(h:RQ0 w0 w O rb tb rest a0 vs es A c X Y T4 T5 a1 a2 a3 a6 L R2)(hk:∀b w',RQ0 w0 w' O rb tb rest a0 vs es A c X Y T4 T5 a1 a2 a3 a6 L R2->w'.heap[b]?=some o->K b w'):NewV w o K:=
 ⟨fun b w' hb hw=>hk b w' (h.call (by subst hw;exact(Ext.refl w).alloc o)) (by subst hb hw;exact heap_alloc_new w o)⟩
theorem NewV.rqrow{K:Nat->EC}(h:RQ w0 w O rb tb rest a0 vs es [])(hk:∀b w',RQ w0 w' O rb tb rest a0 vs es [([x],.slice (some ⟨b,0,none⟩) 1 1)]->K b w'):NewV w (.cells #[x] 9) K:=by
 obtain⟨A,c,X,Y,a1,a2,a3,a6,L,h⟩:=h;refine⟨fun b w' hb hw=>hk b w' ?_⟩;have hlt:∀y∈L,y.1≠b:=fun y hy e=>by have:=h.mem.lt (o:=y.2) (b:=y.1) hy;omega
 have hO:b∉O:=fun hg=>by
  obtain⟨o,ho⟩:=h.all b hg;exact hlt _ ho rfl
 have hr:=RowsP.newrow (x:=x) h.rows hlt hO;exact⟨A,c,X,Y,a1,a2,a3,a6,_,h.grow (h.mem.new hb hw) hr fun y hy _=>zmc hy⟩
theorem RQ.appL{l:List E0}{x:E0}{d:E6}(h:RQ w0 w O rb tb rest a0 vs es [(l.map Value.string,.slice B l.length d)])(hb:w.heap[nb]?=some (.cells #[.string x] 9))(hl:l.length<=7000000000000)(hk:∀B' d' w',RQ w0 w' O rb tb rest a0 vs es [((l++[x]).map Value.string,.slice B' (l++[x]).length d')]->K (.slice B' (l.length+1) d') w'):AppV EG #[140,140] ty (.slice B l.length d) (.slice (some ⟨nb,0,none⟩) 1 1) w K:=by
 obtain⟨A,c,X,Y,a1,a2,a3,a6,L,h⟩:=h;refine h.rows.app 2 rfl qy8 strI strZ Jk rfl (by decide +kernel) h.mem h.all Js rfl (by rw[qa hb];rfl) Oo ?_;intro B' d' w' L' hm hR hkp;refine hk B' d' w' ⟨A,c,X,Y,a1,a2,a3,a6,L',h.grow hm ?_ hkp⟩;rw[AB,zla];exact hR
theorem RQ.rowL{l:List E0}{n:Nat}(h:RQ w0 w O rb tb rest a0 vs es [(l.map Value.string,.slice B n d)]):SlAt V.zeS 1 w B l:=by
 obtain⟨A,c,X,Y,a1,a2,a3,a6,L,h⟩:=h;exact RowB.sl (h.rows.row 2 _ rfl) h.mem
theorem RQ0.rowL{l:List E0}{n:Nat}(h:RQ0 w0 w O rb tb rest a0 vs es A c X Y T4 T5 a1 a2 a3 a6 L [(l.map Value.string,.slice B n d)]):SlAt V.zeS 1 w B l:=RowB.sl (h.rows.row 2 _ rfl) h.mem
theorem RQ0.app4{x:E0}{d:E6}(h:RQ0 w0 w O rb tb rest a0 vs es A c (.slice B vs.length d) Y T4 T5 a1 a2 a3 a6 L R2)(hb:w.heap[nb]?=some (.cells #[.string x] 9))(hl:vs.length<=7000000000000)(hk:∀B' d' w' L',RQ0 w0 w' O rb tb rest a0 (vs++[x]) es A c (.slice B' (vs.length+1) d') Y T4 T5 a1 a2 a3 a6 L' R2->K (.slice B' (vs.length+1) d') w'):AppV EG #[140,140] ty (.slice B vs.length d) (.slice (some ⟨nb,0,none⟩) 1 1) w K:=by
 refine h.rows.app 0 rfl qy8 strI strZ Jk rfl (by decide +kernel) h.mem h.all Js rfl (by rw[qa hb];rfl) Oo ?_;intro B' d' w' L' hm hR hkp;refine hk B' d' w' L' (h.grow hm ?_ hkp);rw[AB];exact hR
theorem RQ0.app5{x:E0}{d:E6}(h:RQ0 w0 w O rb tb rest a0 vs es A c X (.slice B es.length d) T4 T5 a1 a2 a3 a6 L R2)(hb:w.heap[nb]?=some (.cells #[.string x] 9))(hl:es.length<=7000000000000)(hk:∀B' d' w' L',RQ0 w0 w' O rb tb rest a0 vs (es++[x]) A c X (.slice B' (es.length+1) d') T4 T5 a1 a2 a3 a6 L' R2->K (.slice B' (es.length+1) d') w'):AppV EG #[140,140] ty (.slice B es.length d) (.slice (some ⟨nb,0,none⟩) 1 1) w K:=by
 refine h.rows.app 1 rfl qy8 strI strZ Jk rfl (by decide +kernel) h.mem h.all Js rfl (by rw[qa hb];rfl) Oo ?_;intro B' d' w' L' hm hR hkp;refine hk B' d' w' L' (h.grow hm ?_ hkp);rw[AB];exact hR
theorem RQ0.st4{n:Nat}{K:EC}(h:RQ0 w0 w O rb tb rest a0 vs es A c (.slice B n d) Y T4 Y a1 a2 a3 a6 L R2)(hK:∀w',RQ w0 w' O rb tb rest a0 vs es R2->K w'):StoreV w tb 4 (.slice B n d) K:=
 qe9 h.mem h.tg (by simp[tagC]) rfl fun w' L' hm ht hkp=>hK w' (h.tag hm ht hkp)
theorem RQ0.st5{n:Nat}{K:EC}(h:RQ0 w0 w O rb tb rest a0 vs es A c X (.slice B n d) X T5 a1 a2 a3 a6 L R2)(hK:∀w',RQ w0 w' O rb tb rest a0 vs es R2->K w'):StoreV w tb 5 (.slice B n d) K:=
 qe9 h.mem h.tg (by simp[tagC]) rfl fun w' L' hm ht hkp=>hK w' (h.tag hm ht hkp)
end
def qfb(lo hi:Nat)(dig:Bool):List E0->Bool
 | []=>false
 | x::_=>decide (lo<=x.size/\x.size<=hi)&&(bif dig then digA x else letA x)
theorem qbv{x:E0}{xs:List E0}{vs es:List E0}(h:RQ w0 w O rb tb (x::xs) a0 vs es R2):
  Gv EG 249 [pp rb] w fun v w'=>v=.string x/\RQ w0 w' O rb tb xs a0 vs es R2:=by
 refine ze Tryz.func249 Tryz.ntmps249 ?_;refine h.ldr ?_;intro A c hS hc;(conv=>whnf);refine ElemV.sl hS rfl 0 rfl Js ?_;intro b off hcl;(conv=>whnf);refine LoadV.cell0 hcl (zw ?_);obtain⟨A,c,X,Y,a1,a2,a3,a6,L,h⟩:=h;refine LoadV.own (h.mem.get h.rd) rfl (zw ?_);obtain⟨g,cur,off,rfl,hg,g1,g2,g3,g4⟩:=h.sl Js;refine V.SliceV.tailA rfl rfl h.hc ?_;intro A' c' hA' hc';(conv=>whnf);refine qe9 h.mem h.rd (show 0<1 by omega) rfl ?_;intro w2 L2 hm hr hk;(conv=>whnf);refine⟨rfl,A',c',X,Y,a1,a2,a3,a6,L2,hm,hr,hk _ h.tg (fun e=>h.ne e.symm),h.rows.keep fun y hy hO=>hk y hy fun e=>hO (e ▸ h.hrb),fun hne=>?_,hc',h.hrb,h.htb,h.ne,fun g' hg'=>?_,fun y hy=>h.small y (zmc hy)⟩
 ·refine⟨g,cur,off+1,hA' (by simpa using hne),hg,g1,g2,hk _ g3 g1,fun j y hj=>?_⟩;have:=g4 (j+1) y (by simpa using hj)
  rwa[show off+1+j=off+(j+1)by omega]
 ·by_cases e:g'=rb
  ·subst e;exact⟨_,hr⟩
  ·obtain⟨o,ho⟩:=h.all g' hg';exact⟨o,hk _ ho e⟩
theorem qi2{rest:List E0}{vs es:List E0}(lo hi:Nat)(dig:Bool)(h:RQ w0 w O rb tb rest a0 vs es R2):
  Gv EG 248 [pp rb,ii lo,ii hi,.bool dig] w fun v w'=>v=.bool (qfb lo hi dig rest)/\RQ w0 w' O rb tb rest a0 vs es R2:=by
 refine ze Tryz.func248 Tryz.ntmps248 ?_;refine h.ldr ?_;intro A c hS hc;(conv=>whnf);cases rest with
 | nil=>
  refine zC (fun _=>zu ?_) (fun _=>zu ?_)
  ·exact⟨rfl,h⟩
  ·exact absurd rfl Oa
 | cons x xs=>
  have hx:=h.small x mh;simp only[As]at hc|-;refine zv ?_;refine h.ldr ?_;intro A c hS hc;refine zu ?_;refine ElemV.sl hS rfl 0 rfl Js ?_;intro b off hcl;refine zu ?_;refine LoadV.cell0 hcl (zw ?_);refine zt ?_;refine zC (fun _=>zu ?_) (fun _=>zu ?_)
  ·have:¬(lo<=x.size/\x.size<=hi):=fun e=>by simp only[Cs]at *;omega
   exact⟨by rw[qfb,AH this];rfl,h⟩
  ·refine h.ldr ?_;intro A c hS hc;refine zu ?_;refine ElemV.sl hS rfl 0 rfl Js ?_;intro b off hcl;refine zu ?_;refine LoadV.cell0 hcl (zw ?_);refine zt ?_;refine zC (fun _=>zw ?_) (fun _=>zw ?_)
   ·have:¬(lo<=x.size/\x.size<=hi):=fun e=>by simp only[Cs]at *;omega
    exact⟨by rw[qfb,AH this];rfl,h⟩
   ·have hin:lo<=x.size/\x.size<=hi:=by simp only[Cs]at *;omega
    have em:qfb lo hi dig (x::xs)=bif dig then digA x else letA x:=by rw[qfb,Az hin,Dh]
    rw[em];cases dig
    all_goals
     refine zu ?_;refine h.ldr ?_;intro A c hS hc;(conv=>whnf);refine ElemV.sl hS rfl 0 rfl Js ?_;intro b off hcl;(conv=>whnf);refine LoadV.cell0 hcl (zw ?_)
    ·refine zcv (qk3 x Oo w) ?_;rintro v w' ⟨rfl,rfl⟩;(conv=>whnf);exact⟨rfl,h⟩
    ·refine zcv (qff x Oo w) ?_;rintro v w' ⟨rfl,rfl⟩;(conv=>whnf);exact⟨rfl,h⟩
theorem qct(lo hi:Nat)(x:E0)(xs:List E0):qfb lo hi false (x::xs)=q6 x lo hi true:=by
 have:letA x=x.data.toList.all (alnB true):=by
  unfold letA
  congr 1
  funext c
  simp[alnB]
 rw[qfb,q6,cond_false,this,Bool.and_comm]
theorem qs9{rest:List E0}{vs es:List E0}(h:RQ w0 w O rb tb rest a0 vs es []):
  Gv EG 247 [pp rb,pp tb] w fun v w'=>(qeh rest=none/\v=.bool false/\Ext w0 w')\/
   ∃rest' b0,qeh rest=some rest'/\v=.bool true/\2<=b0.size/\RQ w0 w' O rb tb rest' b0 vs es []:=by
 refine ze Tryz.func247 Tryz.ntmps247 ?_;refine zcv (qi2 2 3 false h) ?_;rintro v w1 ⟨rfl,h1⟩;(conv=>whnf);cases q1:qfb 2 3 false rest
 ·refine zu ?_;refine zcv (qi2 4 8 false h1) ?_;rintro v w2 ⟨rfl,h2⟩;(conv=>whnf);cases q2:qfb 4 8 false rest
  ·refine zu ?_;refine .inl ⟨?_,rfl,h2.ext⟩;cases rest with
   | nil=>rfl
   | cons x xs=>
    rw[qct]at q1 q2;rw[qeh,Aa];intro hm;simp[q6]at hm q1 q2;obtain⟨ha,hb⟩:=hm;have:=q1 ha;have:=q2 ha;omega
  ·obtain⟨x,xs,rfl⟩:∃x xs,rest=x::xs:=by
    cases rest with
    | nil=>cases q2
    | cons x xs=>exact⟨x,xs,rfl⟩
   rw[qct]at q2;simp[q6]at q2;refine zu ?_;refine zcv (qbv h2) ?_;rintro v w3 ⟨rfl,h3⟩;(conv=>whnf);refine h3.st0 x ?_;intro w4 h4;(conv=>whnf);refine .inr ⟨xs,x,?_,rfl,by omega,h4⟩;rw[qeh,Ad (by simp[q6];exact⟨q2.1,by omega,by omega⟩),Ad Oo]
 ·obtain⟨x,xs,rfl⟩:∃x xs,rest=x::xs:=by
   cases rest with
   | nil=>cases q1
   | cons x xs=>exact⟨x,xs,rfl⟩
  rw[qct]at q1;simp[q6]at q1;have hL:qeh (x::xs)=some (qey 3 xs):=by rw[qeh,Ad (by simp[q6];exact⟨q1.1,by omega,by omega⟩),Aa Oo]
  rw[hL];refine zu ?_;refine zcv (qbv h1) ?_;rintro v w3 ⟨rfl,h3⟩;(conv=>whnf);refine h3.st0 x ?_;intro w4 h4;(conv=>whnf);refine qj (fun y:List E0×List E0×oA×Nat=>[(0,pp rb),(1,pp tb),(5,.slice y.2.2.1 y.1.length y.2.2.2)])
   (fun y w5=>RQ w0 w5 O rb tb y.2.1 x vs es [(y.1.map Value.string,.slice y.2.2.1 y.1.length y.2.2.2)]/\y.1.length<=3/\(∀z∈y.1,z.size<=3)/\qey (3-y.1.length) y.2.1=qey 3 xs)
   (fun y=>3-y.1.length) ([],xs,none,0) fq ⟨h4.nilrow,by simp,by simp,rfl⟩ ?_
  rintro⟨l,r5,B,d⟩ w5 ρ' ⟨h5,hl,hz,e5⟩;simp only at h5 hl hz e5;dsimp only;(conv=>whnf);refine zC (fun _=>zu ?_) (fun _=>zu ?_)
  ·have hl3:l.length<3:=by omega
   obtain⟨m,hm⟩:∃m,3-l.length=m+1:=⟨2-l.length,by omega⟩
   rw[hm]at e5;refine zcv (qi2 3 3 false h5) ?_;rintro v w6 ⟨rfl,h6⟩;cases q3:qfb 3 3 false r5
   ·have e6:qey 3 xs=r5:=by
     cases r5 with
     | nil=>rw[<-e5];rfl
     | cons y ys=>
      rw[qct]at q3;rw[<-e5,qey,Aa (by rw[q3];simp)]
    rw[e6];refine zu ?_;refine zcv (qfy l B d w6 h6.rowL (fun z hz'=>by have:=hz z hz';omega) Oo) ?_;rintro v w7 ⟨rfl,he7⟩;have h7:=h6.call he7;(conv=>whnf);refine h7.st Js _ ?_;intro w8 h8;(conv=>whnf);exact .inr ⟨r5,x,rfl,rfl,by omega,h8.cut⟩
   ·obtain⟨y,ys,rfl⟩:∃y ys,r5=y::ys:=by
     cases r5 with
     | nil=>cases q3
     | cons y ys=>exact⟨y,ys,rfl⟩
    rw[qct]at q3;rw[qey,Ad q3]at e5;simp[q6]at q3;refine zu ?_;refine zcv (qbv h6) ?_;rintro v w7 ⟨rfl,h7⟩;(conv=>whnf);refine NewV.rq h7 fun nb w8 h8 hnb=>zw ?_;refine h8.appL hnb Oo ?_;intro B' d' w9 h9;(conv=>whnf);refine⟨(l++[y],ys,B',d'),⟨rfl,rfl,by simp only[zla];rfl,trivial⟩,⟨h9,by simp;omega,?_,?_⟩,by simp;omega⟩
    ·intro z hz'
     rcases Ba.1 hz' with hz' | hz'
     ·exact hz z hz'
     ·obtain rfl:=Ah.1 hz';omega
    ·simp only[zla,AZ];rw[show 3-(l.length+1)=m by omega];exact e5
  ·have hl3:l.length=3:=by omega
   rw[hl3]at e5;have e6:qey 3 xs=r5:=by rw[<-e5];rfl
   rw[e6];refine zcv (qfy l B d w5 h5.rowL (fun z hz'=>by have:=hz z hz';omega) Oo) ?_;rintro v w7 ⟨rfl,he7⟩;have h7:=h5.call he7;(conv=>whnf);refine h7.st Js _ ?_;intro w8 h8;(conv=>whnf);exact .inr ⟨r5,x,rfl,rfl,by omega,h8.cut⟩
theorem qyg{rest:List E0}{vs es:List E0}(h:RQ w0 w O rb tb rest a0 vs es [])(hn:rest.length<=1000000):
  Gv EG 253 [pp rb,pp tb] w fun v w'=>v=.bool (decide (rest.tail≠[])&&rest.tail.all qjz)/\RQ w0 w' O rb tb rest a0 vs es []:=by
 refine ze Tryz.func253 Tryz.ntmps253 ?_;refine h.ldr ?_;intro A c hS hc;(conv=>whnf);refine zcv (qfy rest A c w hS h.small hn) ?_;rintro v w1 ⟨rfl,he1⟩;have h1:=h.call he1;(conv=>whnf);refine h1.st Js _ ?_;intro w2 h2;(conv=>whnf);refine h2.ldr ?_;intro A2 c2 hS2 hc2;(conv=>whnf);refine zC (fun _=>zw ?_) (fun _=>zw ?_)
 ·have:rest.tail=[]:=D4.1 (by rw[Dl];omega);rw[this];exact⟨rfl,h2⟩
 ·have ht:rest.tail≠[]:=fun e=>by have:=Af List.length e;rw[Dl]at this;simp at this;omega
  rw[Az ht,Dh];refine qj (fun i:Nat=>[(0,pp rb),(1,pp tb),(5,ii (i+1:Nat))])
   (fun i w3=>RQ w0 w3 O rb tb rest a0 vs es []/\i<=rest.tail.length/\(rest.tail.take i).all qjz=true)
   (fun i=>rest.tail.length-i) 0 fq ⟨h2,by simp,rfl⟩ ?_
  rintro i w3 ρ' ⟨h3,hi,ha⟩;rw[Dl]at hi|-;(conv=>whnf);refine h3.ldr ?_;intro A3 c3 hS3 hc3;(conv=>whnf);refine zC (fun _=>zw ?_) (fun _=>zw ?_)
  ·refine h3.ldr ?_;intro A4 c4 hS4 hc4;(conv=>whnf);have hlt:i+1<rest.length:=by omega
   have htl:i<rest.tail.length:=by rw[Dl];omega
   have hx:=h3.small _ (AT hlt);have eg:rest.tail[i]=rest[i+1]:=by rw[List.getElem_tail]
   refine ElemV.sl hS4 rfl (i+1) rfl hlt ?_;intro b off hcl;(conv=>whnf);refine LoadV.cell0 hcl (zw ?_);refine zcv (qg5 _ 1 8 Oo w3) ?_;rintro v w4 ⟨rfl,rfl⟩;cases q:q6 rest[i+1] 1 8 false
   ·refine zu ?_;refine⟨?_,h3⟩;have:rest.tail.all qjz=false:=by
     rw[DE];exact⟨_,AT htl,by rw[eg,qjz,q];simp⟩
    rw[this]
   ·refine zu ?_;refine⟨i+1,fq,⟨h3,by first|omega|(rw[Dl];omega),?_⟩,by first|omega|(rw[Dl];omega)⟩;rw[Bm htl,DR,ha,eg];simp[qjz,q]
  ·rw[AF (by rw[Dl];omega)]at ha;rw[ha];exact⟨rfl,h3⟩
def qgh(e:E0):E0:=lowS (e.extract 0 1)
def jnS(l:List E0):E0:=⟨(jn l).toArray⟩
theorem q5n{x:E0}{l:List E0}(hx:x.size=1):1<=(jnS (x::l)).size/\qgh (jnS (x::l))=lowS x:=by
 obtain⟨⟨c⟩⟩:=x;have hc:c.length=1:=hx;obtain⟨b,rfl⟩:=List.length_eq_one_iff.1 hc;refine⟨by show 1<=(jn _).toArray.size;simp[jn],?_⟩;unfold qgh
 congr 1
 have:(jnS (⟨⟨[b]⟩⟩::l)).extract 0 1=(⟨⟨[b]⟩⟩:E0):=by
  have h:=qoa (l:=[(jnS (⟨⟨[b]⟩⟩::l)).extract 0 1]) (m:=[⟨⟨[b]⟩⟩]) (by rw[AO,qof];simp[jnS,jn])
  simpa using h
 exact this
theorem ql{v:E8}(h:vals k=v):vals=upd vals k v:=by
 funext j
 by_cases e:j=k
 ·subst e;rw[qet,h]
 ·rw[qaq _ _ _ _ e]
theorem RQ.cell5{rest:List E0}{vs es:List E0}(h:RQ w0 w O rb tb rest a0 vs es R2):
  ∃A c,SlAt V.zeS 1 w A es/\w.cell? ⟨tb,5,none⟩=some (.slice A es.length c):=by
 obtain⟨A,c,X,Y,a1,a2,a3,a6,L,h⟩:=h;obtain⟨B,d,e⟩:=(h.rows.row 1 _ rfl).slice;simp only[AC]at e;subst e;exact⟨B,d,RowB.sl (h.rows.row 1 _ rfl) h.mem,by rw[qa (h.mem.get h.tg)];rfl⟩
theorem qqu{x:E0}{xs:List E0}{vs es:List E0}(h:RQ w0 w O rb tb (x::xs) a0 vs es [])(hx1:x.size=1)(hes:∀e∈es,1<=e.size)(hn:xs.length+es.length+1<=1000000):
  Gv EG 252 [pp rb,pp tb] w fun v w'=>Ext w0 w'/\
   (((xs.takeWhile extQ=[]\/∃e∈es,qgh e=lowS x)/\v=.bool false)\/
   (¬(xs.takeWhile extQ=[]\/∃e∈es,qgh e=lowS x)/\v=.bool true/\RQ w0 w' O rb tb (xs.dropWhile extQ) a0 vs (es++[jnS (x::xs.takeWhile extQ)]) [])):=by
 refine ze Tryz.func252 Tryz.ntmps252 ?_;refine zcv (qbv h) ?_;rintro v w1 ⟨rfl,h1⟩;(conv=>whnf);refine NewV.rqrow h1 fun nb w2 h2=>zw ?_;refine qj (fun y:List E0×List E0×oA×Nat=>[(0,pp rb),(1,pp tb),(5,.slice y.2.2.1 (x::y.1).length y.2.2.2)])
  (fun y w5=>RQ w0 w5 O rb tb y.2.1 a0 vs es [((x::y.1).map Value.string,.slice y.2.2.1 (x::y.1).length y.2.2.2)]/\xs=y.1++y.2.1/\y.1.all extQ=true)
  (fun y=>y.2.1.length) ([],xs,some ⟨nb,0,none⟩,1) fq ⟨h2,rfl,rfl⟩ ?_
 rintro⟨pre,r5,B,d⟩ w5 ρ' ⟨h5,e5,a5⟩;simp only at h5 e5 a5;dsimp only;have hlen:xs.length=pre.length+r5.length:=by rw[e5];simp
 have tk:∀ys,r5=ys->(∀y zs,ys=y::zs->extQ y=false)->xs.takeWhile extQ=pre/\xs.dropWhile extQ=ys:=by
  rintro ys rfl hys;have ha:=Ce.1 a5;rw[e5,List.takeWhile_append_of_pos ha,List.dropWhile_append_of_pos ha];cases r5 with
  | nil=>simp
  | cons y zs=>simp[hys y zs rfl]
 (conv=>whnf);refine h5.ldr ?_;intro A c hS hc
 rcases r5 with _|⟨y,ys⟩
 case' cons=>
  simp only[As]at hc hlen|-;(conv=>whnf);refine Tst.yes (Az Oo) (zu ?_);refine h5.ldr ?_;intro A c hS hc;refine zu ?_;refine ElemV.sl hS rfl 0 rfl Js ?_;intro b off hcl;refine zu ?_;refine LoadV.cell0 hcl (zu ?_);have hy:=h5.small y mh;refine zcv (qg5 y 2 8 Oo w5) ?_;rintro v w6 ⟨rfl,rfl⟩;cases q:q6 y 2 8 false
  case' true=>
   refine zu ?_;refine zcv (qbv h5) ?_;rintro v w7 ⟨rfl,h7⟩;(conv=>whnf);refine NewV.rq h7 fun nb w8 h8 hnb=>zw ?_;refine h8.appL hnb Ys ?_;intro B' d' w9 h9;(conv=>whnf);exact⟨(pre++[y],ys,B',d'),⟨rfl,rfl,by simp only[zla,As];rfl,trivial⟩,⟨h9,by rw[e5];simp,by rw[DR,a5];simp[extQ,q]⟩,by simp⟩
  case' false=>
   obtain⟨t1,t2⟩:=tk _ rfl (fun y' zs e=>by cases e;exact q);clear hy;obtain⟨r6,h5,t2⟩:∃r6,RQ w0 _ O rb tb r6 a0 vs es [((x::pre).map Value.string,.slice B (x::pre).length d)]/\xs.dropWhile extQ=r6:=⟨_,h5,t2⟩
   rw[t1,t2];clear tk hS hcl q;refine zu ?_
 case' nil=>
  (conv=>whnf);refine Tst.no (AH Js) (zu ?_);obtain⟨t1,t2⟩:=tk _ rfl (fun y' zs e=>by cases e);obtain⟨r6,h5,t2⟩:∃r6,RQ w0 _ O rb tb r6 a0 vs es [((x::pre).map Value.string,.slice B (x::pre).length d)]/\xs.dropWhile extQ=r6:=⟨_,h5,t2⟩
  rw[t1,t2];clear tk hS
 all_goals
  have hx0:=h.small x mh;have hpl:pre.length<=xs.length:=by omega
  have hl0:(x::pre).length=pre.length+1:=rfl;refine qj (fun i:Nat=>[(0,pp rb),(1,pp tb),(5,.slice B (x::pre).length d),(7,ii i)])
   (fun i w6=>RQ w0 w6 O rb tb r6 a0 vs es [((x::pre).map Value.string,.slice B (x::pre).length d)]/\i<=es.length/\∀(j:Nat) (hj:j<es.length),j<i->qgh es[j]≠lowS x)
   (fun i=>es.length-i) 0 fq ⟨h5,by omega,fun j hj h0=>by omega⟩ ?_
  rintro i w6 ρ' ⟨h6,hi,hd⟩;(conv=>whnf);obtain⟨EA,ec,hES,hc5⟩:=h6.cell5;refine LoadV.of hc5 (zw ?_)
  (repeat' refine zC (fun _=>zw ?_) (fun _=>zw ?_))
  ·have hil:i<es.length:=by omega
   have hei:=hes _ (AT hil);obtain⟨eb,eoff,rfl,hec⟩:=hES.at_ (fun e=>by rw[e]at hil;simp at hil);have hec:=hec i _ (zge hil);obtain⟨lb,loff,e9,hlc⟩:=h6.rowL.at_ Js;subst e9;have hlc:=hlc 0 x rfl;refine DrawV.free rfl Jk (zw ?_);(iterate 3 (refine zd ?_));refine zf ?_ (by intro wd hd;(conv=>whnf);refine LoadV.of (Ext.cell (Ext.trans (Ext.drew xr) hd) hc5) ?_;(conv=>whnf);exact xq);refine zd ?_;refine zf ?_ (by intro wd hd;(conv=>whnf);refine⟨⟨eb,eoff,i,rfl,by omega,by omega,?_⟩⟩;exact xq);refine zf ?_ (by intro wd hd;(conv=>whnf);refine LoadV.of (Ext.cell (Ext.trans (Ext.drew xr) hd) (hec 0 _ rfl)) ?_;(conv=>whnf);exact xq);refine zsd (.string (es[i].extract 0 1)) (fun wd hd=>zw ?_) (zw ?_)
   ·refine⟨0,1,rfl,rfl,by omega,by omega,?_⟩;(conv=>whnf);exact xq
   refine zsd (.string (qgh es[i])) (fun wd hd=>zw ?_) (zw ?_)
   ·refine zcv (qba (es[i].extract 0 1) (by rw[Cy];omega) wd) ?_;rintro v w7 ⟨rfl,he7⟩;exact⟨he7,rfl⟩
   refine zd ?_;refine zf ?_ (by intro wd hd;(conv=>whnf);refine⟨⟨lb,loff,0,rfl,by omega,by omega,?_⟩⟩;exact xq);refine zf ?_ (by intro wd hd;(conv=>whnf);refine LoadV.of (Ext.cell (Ext.trans (Ext.drew xr) hd) (hlc 0 _ rfl)) ?_;(conv=>whnf);exact xq);refine zsd (.string (lowS x)) (fun wd hd=>zw ?_) (zw ?_)
   ·refine zcv (qba x Oo wd) ?_;rintro v w7 ⟨rfl,he7⟩;exact⟨he7,rfl⟩
   refine zd ?_;intro wd hwd;have h7:=h6.drew.call hwd;(conv=>whnf);cases q:seq (qgh es[i]) (lowS x)
   ·refine zu ?_;refine⟨i+1,fq,⟨h7,by omega,fun j hj hji=>?_⟩,by omega⟩
    by_cases e:j=i
    ·subst e;intro e';rw[qac.2 e']at q;cases q
    ·exact hd j hj Oo
   ·refine zu ?_;exact⟨h7.ext,.inl ⟨.inr ⟨_,AT hil,qac.1 q⟩,rfl⟩⟩
  ·have hno:¬ ∃e∈es,qgh e=lowS x:=by
    rintro⟨e,he,h9⟩;obtain⟨j,hj,rfl⟩:=Cw.1 he;exact hd j hj Oo h9
   obtain⟨A,c,X,Y,a1,a2,a3,a6,L,h6⟩:=h6;obtain⟨EA,ec,e⟩:=(h6.rows.row 1 _ rfl).slice;simp only[AC]at e;subst e;clear hES hc5;obtain⟨J,hJ⟩:∃J,J=jnS (x::pre):=⟨_,rfl⟩
   obtain⟨rr,hrr⟩:∃rr:List (EE×E8),rr=[((x::pre).map Value.string,.slice B (x::pre).length d)]:=⟨_,rfl⟩
   have hsz:∀z∈x::pre,z.size<=1000000:=fun z hz=>by
    rcases AD.1 hz with rfl|hz
    ·exact hx0
    ·exact h.small z (zmc (by rw[e5];exact Bb _ hz))
   rw[<-hrr]at h6;rw[<-hJ];refine DrawV.gen (fun S vals w=>bif S 11 then(S 4=true/\S 6=true/\S 7=true/\S 8=true/\RQ w0 w O rb tb r6 a0 vs (es++[J]) rr)
    else bif S 8 then(S 4=true/\S 6=true/\S 7=true/\∃B' d' L',vals 8=.slice B' (es.length+1) d'/\RQ0 w0 w O rb tb r6 a0 vs (es++[J]) A c X (.slice B' (es.length+1) d') X (.slice EA es.length ec) a1 a2 a3 a6 L' rr)
    else bif S 7 then(S 6=true/\∃nb,vals 7=.slice (some ⟨nb,0,none⟩) 1 1/\w.heap[nb]?=some (.cells #[.string J] 9)/\RQ0 w0 w O rb tb r6 a0 vs es A c X (.slice EA es.length ec) X (.slice EA es.length ec) a1 a2 a3 a6 L rr)
    else RQ0 w0 w O rb tb r6 a0 vs es A c X (.slice EA es.length ec) X (.slice EA es.length ec) a1 a2 a3 a6 L rr) rfl Jk (fun vals=>h6.call xr.drew) ?_
   (conv=>whnf);(iterate 4 (refine zg ?_))
   ·
    refine StepG.of (.slice EA es.length ec) (fun S vals wd hk hp hI=>?_) (zw ?_)
    ·dsimp only at hI;cases h11:S 11
     ·rw[h11]at hI;cases h8:S 8
      ·rw[h8]at hI;cases h7:S 7
       ·rw[h7]at hI;(conv=>whnf);refine LoadV.own (hI.mem.get hI.tg) rfl (zw ?_);refine⟨rfl,?_⟩;show bif S 11 then _ else bif S 8 then _ else bif S 7 then _ else _;rw[h11,h8,h7];exact hI
       ·rw[h7]at hI;obtain⟨i6,nb,e7,hnb,hQ⟩:=hI;(conv=>whnf);refine LoadV.own (hQ.mem.get hQ.tg) rfl (zw ?_);refine⟨rfl,?_⟩;show bif S 11 then _ else bif S 8 then _ else bif S 7 then _ else _;rw[h11,h8,h7];exact⟨i6,nb,e7,hnb,hQ⟩
      ·rw[h8]at hI;have:=hI.1;rw[hk]at this;cases this
     ·rw[h11]at hI;have:=hI.1;rw[hk]at this;cases this
    refine zg ?_;refine StepG.of (.string J) (fun S vals wd hk hp hI=>?_) (zw ?_)
    ·dsimp only at hI;cases h11:S 11
     ·rw[h11]at hI;cases h8:S 8
      ·rw[h8]at hI;cases h7:S 7
       ·rw[h7]at hI;(conv=>whnf);have hlr:=hI;rw[hrr]at hlr;refine zcv (qfy (x::pre) B d wd hlr.rowL hsz Ys) ?_;rintro v w7 ⟨rfl,he7⟩;refine⟨by rw[hJ];rfl,?_⟩;show bif S 11 then _ else bif S 8 then _ else bif S 7 then _ else _;rw[h11,h8,h7];exact hI.call he7
       ·rw[h7]at hI;have:=hI.1;rw[hk]at this;cases this
      ·rw[h8]at hI;have:=hI.2.1;rw[hk]at this;cases this
     ·rw[h11]at hI;have:=hI.2.1;rw[hk]at this;cases this
    refine StepG.any (fun S vals wd hk hp hI=>?_) (zw ?_)
    ·dsimp only at hI;have h6t:=hp 6 Od;cases h11:S 11
     ·rw[h11]at hI;cases h8:S 8
      ·rw[h8]at hI;rw[hk]at hI;(conv=>whnf);refine NewV.rq0 hI fun nb w8 h8' hnb=>zw ?_;refine⟨trivial,?_⟩;show bif S 11 then _ else bif S 8 then _ else bif true then _ else _;rw[h11,h8];exact⟨h6t,nb,rfl,hnb,h8'⟩
      ·rw[h8]at hI;have:=hI.2.2.1;rw[hk]at this;cases this
     ·rw[h11]at hI;have:=hI.2.2.1;rw[hk]at this;cases this
    refine StepG.any (fun S vals wd hk hp hI=>?_) (zw ?_)
    ·dsimp only at hI;have h4t:=hp 4 Od;have h7t:=hp 7 Od;cases h11:S 11
     ·rw[h11]at hI;rw[hk]at hI;rw[h7t]at hI;obtain⟨i6,nb,e7,hnb,hQ⟩:=hI;rw[ql e7];(conv=>whnf);refine hQ.app5 hnb Oo ?_;intro B' d' w8 L' hQ';(conv=>whnf);refine⟨trivial,?_⟩;show bif S 11 then _ else bif true then _ else bif S 7 then _ else _;rw[h11];exact⟨h4t,i6,h7t,B',d',L',rfl,hQ'⟩
     ·rw[h11]at hI;have:=hI.2.2.2.1;rw[hk]at this;cases this
    refine zg ?_;refine zg ?_;refine StepG.of undef (fun S vals wd hk hp hI=>?_) (zw ?_)
    ·dsimp only at hI;have h8t:=hp 8 Od;rw[hk]at hI;rw[h8t]at hI;obtain⟨h4t,h6t,h7t,B',d',L',e8,hQ⟩:=hI;rw[ql e8];(conv=>whnf);refine hQ.st5 ?_;intro w8 hQ';(conv=>whnf);exact⟨rfl,h4t,h6t,h7t,h8t,hQ'⟩
    intro vals wd hI;obtain⟨_,_,_,_,hQ⟩:=hI;(conv=>whnf);refine⟨hQ.ext,?_⟩
    by_cases hp0:pre=[]
    ·subst hp0;exact .inl ⟨.inl rfl,rfl⟩
    ·have:0<pre.length:=Cc.2 hp0;exact .inr ⟨fun h9=>h9.elim hp0 hno,by rw[hl0,Az Oo],hQ.cut⟩
theorem qv5(x:E0):seq (lowS x) ⟨#[120]⟩=qe0 x:=by
 rw[AV,qac];obtain⟨⟨l⟩⟩:=x;unfold qe0 lowS;simp only[decide_eq_true_eq]
 constructor
 ·intro h;have h:l.map lowB=[120]:=by
   have:=Af (fun b:E0=>b.data.toList) h
   simpa using this
  obtain⟨c,rfl⟩:∃c,l=[c]:=List.length_eq_one_iff.1 (by have:=Af List.length h;simpa using this);simp only[AO,BM,List.cons.injEq,and_true]at h;unfold lowB at h
  split at h
  ·rename_i hc
   right
   have:c=88:=by
    have h2:=Af UInt8.toNat h;rw[UInt8.toNat_add]at h2;rw[<-D9];have:=c.toNat_lt;simp at h2|-;omega
   subst this;rfl
  ·subst h;left;rfl
 ·rintro(h|h)
  ·cases h;rfl
  ·cases h;rfl
theorem qtl{x:E0}(h:qe0 x=true):varB x=false/\extS x=false:=by
 have hs:x.size=1:=by
  unfold qe0 at h;simp at h
  rcases h with rfl|rfl<;>rfl
 refine⟨?_,by rw[extS,h];simp⟩;simp[varB,q6,hs]
section
variable {w0 w w':Ez} {O:EF} {rb tb:Nat} {rest:List E0} {a0:E0} {vs es:List E0} {R2:List (EE×E8)}
theorem RQ.cell4(h:RQ w0 w O rb tb rest a0 vs es R2):∃A c,SlAt V.zeS 1 w A vs/\w.cell? ⟨tb,4,none⟩=some (.slice A vs.length c):=by
 obtain⟨A,c,X,Y,a1,a2,a3,a6,L,h⟩:=h;obtain⟨B,d,e⟩:=(h.rows.row 0 _ rfl).slice;simp only[AC]at e;subst e;exact⟨B,d,RowB.sl (h.rows.row 0 _ rfl) h.mem,by rw[qa (h.mem.get h.tg)];rfl⟩
theorem RQ.ldA{K:EE->Prop}(h:RQ w0 w O rb tb rest a0 vs es R2)(hk:∀s0 s1 s2 s3 A n c A' n' c' s6,(∀u∈[Value.string s0,.string s1,.string s2,.string s3,.slice A n c,.slice A' n' c',.string s6],u.oneCell'=true)->K [.string s0,.string s1,.string s2,.string s3,.slice A n c,.slice A' n' c',.string s6]):LoadA w tb 0 7 K:=by
 obtain⟨A,c,X,Y,a1,a2,a3,a6,L,h⟩:=h;obtain⟨B,d,e⟩:=(h.rows.row 0 _ rfl).slice;obtain⟨B',d',e'⟩:=(h.rows.row 1 _ rfl).slice;simp only[AC]at e e';subst e e';refine⟨_,rfl,fun i hi=>?_,hk a0 a1 a2 a3 B vs.length d B' es.length d' a6 (tag7 ⟨⟨_,_,_,rfl⟩,⟨_,_,_,rfl⟩⟩ a0 a1 a2 a3 a6)⟩;rw[qa (h.mem.get h.tg),Ar,Aw];rfl
end
theorem qra(s:E0):(lowS s).size=s.size:=by
 show(s.data.toList.map lowB).toArray.size=s.size;simp
theorem V.later{A B:Prop}(h:A->B)(p:A):B:=h p
theorem qlo(x:E0)(xs:List E0):regB x=(qfb 2 2 false (x::xs)||qfb 3 3 true (x::xs)):=by
 rw[qct,regB]
 congr 1
 by_cases h3:x.size=3
 ·have e:digA x=(digN (gb x 0).toNat&&digN (gb x 1).toNat&&digN (gb x 2).toNat):=by
   unfold digA;have d0:=qay x 0 Oo;have d1:=qay x 1 Oo;have d2:=qay x 2 Oo;have d3:x.data.toList.drop 3=[]:=Be Ys;rw[BA]at d0;rw[d0,d1,d2,d3];simp[Bool.and_assoc]
  rw[qfb,e,Az h3,Az Oo];simp[Bool.and_assoc]
 ·rw[qfb,AH h3,AH Oo];simp
theorem qys(s:E0)(hs:s.size<=65536)(w:Ez):
  Gv EG 194 [.string s] w fun v w'=>TagV (qbf s) v/\Ext w w':=by
 obtain⟨p1,p2⟩:=qm7 s;have p0:qbf s≠[]:=fun e=>by have:=qm6 s;rw[e]at this;simp at this
 have parts:=qrz s Oo;obtain⟨l,hl⟩:∃l,l=qbf s:=⟨_,rfl⟩
 rw[<-hl]at p1 p2 p0 parts|-;refine ze Tryz.func194 Tryz.ntmps194 ?_;refine znm (Mem.nil w) fun rt w1 hm1=>zw ?_;refine znm (Mem.nil w1) fun tb w2 hm2=>zw ?_;refine zcv (parts w2) ?_;rintro v w3 ⟨A,c,rfl,hR⟩;(conv=>whnf);have hlt:tb<w2.heap.size:=hm2.lt mh
 rcases hR.own.2 with⟨_,e2⟩|⟨g,cap,cur,e1,hge,hg,hnc,_,hsz,htk⟩
 ·exact absurd (D4.1 e2) p0
 cases e1;rw[Bk]at htk hsz;have hm3:=(hm2.call hR.mem.ext).add hg (AU hm2.ext.size hge) (fun x hx=>by obtain rfl:=Ah.1 hx;show tb<g;omega);refine znm hm3 ?_;intro rb w4 hm4;have hrb:rb≠g/\rb≠tb:=by
  have:=hm4.nodup;simp at this;exact⟨fun e=>this.1.1 e,fun e=>this.1.2 e⟩
 have h4:RQ w1 w4 [rb,g,tb] rb tb l ⟨#[]⟩ [] [] []:=by
  refine⟨_,_,.slice none 0 0,.slice none 0 0,⟨#[]⟩,⟨#[]⟩,⟨#[]⟩,⟨#[]⟩,_,hm4,AK ..,zmc (zmc mh),RowsP.nils _ _ _ _ Js,fun _=>⟨g,cur,0,rfl,by simp,fun e=>hrb.1 e.symm,fun e=>?_,zmc mh,fun j x hj=>?_⟩,hnc,by simp,by simp,hrb.2,fun k hk=>?_,fun x hx=>by have:=p1 x hx;omega⟩
  ·omega
  ·have h9:(cur.toList.take l.length)[j]?=some (.string x):=by rw[htk,Ao,hj];rfl
   rw[Bc]at h9
   split at h9
   ·rw[Aw];simpa using h9
   ·cases h9
  ·rcases AD.1 hk with rfl|hk
   ·exact⟨_,AK ..⟩
   ·rcases AD.1 hk with rfl|hk
    ·exact⟨_,zmc mh⟩
    ·obtain rfl:=Ah.1 hk;exact⟨_,zmc (zmc mh)⟩
 clear hm4 hm3 hR hg;generalize hO:[rb,g,tb]=O at h4;(conv=>whnf);refine h4.ldr ?_;intro A c hS hc;obtain⟨x,xs,hxl⟩:∃x xs,l=x::xs:=by
  cases l with
  | nil=>exact absurd rfl p0
  | cons x xs=>exact⟨x,xs,rfl⟩
 (conv=>whnf);refine ElemV.sl hS rfl 0 rfl (by rw[hxl];simp) ?_;intro b off hcl;(conv=>whnf);refine LoadV.cell0 hcl ?_;have hx0:l[0]'(by rw[hxl];simp)=x:=by subst hxl;rfl
 have hx6:=p1 x (by rw[hxl];simp);rw[hx0];(conv=>whnf);refine zcv (qba x Oo w4) ?_;rintro v w5 ⟨rfl,he5⟩;have h5:=h4.call he5;clear hcl hS hc h4 he5;(conv=>whnf);rw[qv5];obtain⟨F,hF⟩:∃F:List E0×List E0×E0->List (Nat×E8),F=fun _=>[(2,pp rt),(4,pp tb),(5,pp rb)]:=⟨_,rfl⟩
 obtain⟨I,hI⟩:∃I:List E0×List E0×E0->Ez->Prop,I=fun y w6=>RQ w1 w6 O rb tb y.2.1 y.2.2 y.1 [] []/\tagR l=(qia (y.1.map lowS) y.2.1).bind (fun r=>extN r.2.length r.1 r.2)/\(∀v∈y.1,4<=v.size/\v.size<=1000000)/\y.1.length+y.2.1.length<=l.length:=⟨_,rfl⟩
 obtain⟨mm,hmm⟩:∃mm:List E0×List E0×E0->Nat,mm=fun y=>y.2.1.length:=⟨_,rfl⟩
 apply V.later
 case h=>
  intro body;cases q:qe0 x
  ·refine zv ?_;refine zcv (qs9 h5) ?_;have hT:tagR l=(qeh l).bind qja:=by
    rw[tagR,Aa (by rw[hxl];show ¬qe0 x=true;rw[q];simp)]
   rintro v w6 (⟨e2,rfl,he6⟩|⟨r1,b0,e2,rfl,hb0,h6⟩)
   ·rw[e2]at hT;have hno:¬tagP l:=fun h=>by obtain⟨l1,h1,_⟩:=h;rw[hT]at h1;cases h1
    refine zu ?_;refine StoreA.mem (hm1.call he6) (i:=0) rfl (Aq 7) qd9 fun w9 hm9=>zw ?_;refine qh (R:=fun v w'=>TagV l v/\Ext w w') (zw ?_);refine zl hm9 0 ?_;exact⟨⟨_,_,_,_,_,_,_,qd9,by rw[qdg hno];rfl⟩,hm9.ext⟩
   rw[e2]at hT;have hb:seq b0 ⟨#[]⟩=false:=by rw[qlw];exact AH Oo
   refine zu ?_;refine h6.ld0 (zw ?_);rw[hb];refine zv ?_;have hl1:=qk1 e2;refine zcv (qi2 4 4 false h6) ?_;rintro v w7 ⟨rfl,h7⟩;(conv=>whnf);cases q1:qfb 4 4 false r1
   case' false=>
    obtain⟨r2,h8,es2,hl2⟩:∃r2,RQ w1 w7 O rb tb r2 b0 [] [] []/\qdv r1=r2/\r2.length<=r1.length:=by
     refine⟨r1,h7,?_,Aq _⟩;cases r1 with
     | nil=>rfl
     | cons y ys=>
      rw[qct]at q1;rw[qdv,Aa (by rw[q1];simp)]
    clear h7 q1 h6;refine zv ?_
   case' true=>
    obtain⟨y,ys,rfl⟩:∃y ys,r1=y::ys:=by
     cases r1 with
     | nil=>cases q1
     | cons y ys=>exact⟨y,ys,rfl⟩
    rw[qct]at q1;refine zv ?_;refine zcv (qbv h7) ?_;rintro v w8 ⟨rfl,h8⟩;(conv=>whnf);refine h8.st Js _ ?_;intro w7 h9;obtain⟨r2,h8,es2,hl2⟩:∃r2,RQ w1 w7 O rb tb r2 b0 [] [] []/\qdv (y::ys)=r2/\r2.length<=(y::ys).length:=⟨ys,h9,by rw[qdv,Ad q1],by simp⟩
    clear h7 q1 h6 h9;conv=>whnf
   all_goals
    refine h8.ld0 (zw ?_);rw[hb];refine zv ?_;refine zcv (qi2 2 2 false h8) ?_;rintro v w9 ⟨rfl,h9⟩;(conv=>whnf);cases q2:qfb 2 2 false r2
    ·refine zv ?_;refine zcv (qi2 3 3 true h9) ?_;rintro v w10 ⟨rfl,h10⟩;cases q3:qfb 3 3 true r2
     ·have er:qcz r2=r2:=by
       cases r2 with
       | nil=>rfl
       | cons y ys=>rw[qcz,Aa (by rw[qlo,q2,q3];simp)]
      refine zu ?_;refine qj F I mm ([],r2,b0) (by rw[hF];exact fq) (by rw[hI];exact⟨h10,by rw[hT];show qja _=_;rw[qja,es2,er];rfl,by simp,by simp only[BP];omega⟩) body
     ·obtain⟨y,ys,rfl⟩:∃y ys,r2=y::ys:=by
       cases r2 with
       | nil=>cases q3
       | cons y ys=>exact⟨y,ys,rfl⟩
      have er:qcz (y::ys)=ys:=by rw[qcz,Ad (by rw[qlo,q3];simp)]
      refine zu ?_;refine zcv (qbv h10) ?_;rintro v w11 ⟨rfl,h11⟩;(conv=>whnf);refine h11.st Js _ ?_;intro w12 h12;(conv=>whnf);refine qj F I mm ([],ys,b0) (by rw[hF];exact fq) (by rw[hI];exact⟨h12,by rw[hT];show qja _=_;rw[qja,es2,er];rfl,by simp,by simp only[BP,As]at *;omega⟩) body
    ·obtain⟨y,ys,rfl⟩:∃y ys,r2=y::ys:=by
      cases r2 with
      | nil=>cases q2
      | cons y ys=>exact⟨y,ys,rfl⟩
     have er:qcz (y::ys)=ys:=by rw[qcz,Ad (by rw[qlo,q2];simp)]
     refine zu ?_;refine zcv (qbv h9) ?_;rintro v w11 ⟨rfl,h11⟩;(conv=>whnf);refine h11.st Js _ ?_;intro w12 h12;(conv=>whnf);refine qj F I mm ([],ys,b0) (by rw[hF];exact fq) (by rw[hI];exact⟨h12,by rw[hT];show qja _=_;rw[qja,es2,er];rfl,by simp,by simp only[BP,As]at *;omega⟩) body
  ·have hT:tagR l=(qia [] l).bind fun r=>extN r.2.length r.1 r.2:=by
    rw[tagR,Ad (by rw[hxl];exact q),hxl,qia,Aa (by rw[(qtl q).1];simp)];show _=extN (xs.length+1) [] (x::xs);rw[extN,Aa (by rw[(qtl q).2];simp)]
   have hb:seq ⟨#[]⟩ ⟨#[]⟩=true:=by rw[qlw];rfl
   refine zv ?_;refine h5.ld0 (zw ?_);rw[hb];refine zv ?_;refine h5.ld0 (zw ?_);rw[hb];refine zv ?_;refine qj F I mm ([],l,⟨#[]⟩) (by rw[hF];exact fq) (by rw[hI];exact⟨h5,hT,by simp,by simp⟩) body
 case p=>
  subst hF hI hmm;rintro⟨vs,r3,b0⟩ w6 ρ' ⟨h6,hT,hv4,hlen⟩;simp only at h6 hT hv4 hlen;dsimp only;obtain⟨F,hF⟩:∃F:Nat×List E0×List E0->List (Nat×E8),F=fun _=>[(2,pp rt),(4,pp tb),(5,pp rb)]:=⟨_,rfl⟩
  obtain⟨I,hI⟩:∃I:Nat×List E0×List E0->Ez->Prop,I=fun y w6=>RQ w1 w6 O rb tb y.2.1 b0 vs y.2.2 []/\tagR l=extN y.1 (vs.map lowS++y.2.2.map qgh) y.2.1/\y.2.1.length<=y.1/\(∀e∈y.2.2,1<=e.size)/\y.2.1.length+y.2.2.length<=l.length:=⟨_,rfl⟩
  obtain⟨mm,hmm⟩:∃mm:Nat×List E0×List E0->Nat,mm=fun y=>y.2.1.length:=⟨_,rfl⟩
  apply V.later
  case h=>
   intro body;(conv=>whnf);refine h6.ldr ?_;intro A c hS hc;conv=>whnf
   rcases r3 with _|⟨y,ys⟩
   ·refine Tst.no (AH Js) (zu ?_);refine qj F I mm (0,[],[]) (by rw[hF];exact fq) (by rw[hI];exact⟨h6,by rw[hT];rfl,Aq _,by simp,by simp⟩) body
   ·simp only[As]at hc hlen|-;refine Tst.yes (Az Oo) (zu ?_);refine h6.ldr ?_;intro A c hS hc;refine zu ?_;refine ElemV.sl hS rfl 0 rfl Js ?_;intro b off hcl;refine zu ?_;refine LoadV.cell0 hcl (zu ?_);have hy:=h6.small y mh;refine zcv (qmh y Oo w6) ?_;rintro v w7 ⟨rfl,rfl⟩;cases q:varB y
    ·rw[qia,Aa (by rw[q];simp)]at hT;refine zu ?_;refine qj F I mm ((y::ys).length,y::ys,[]) (by rw[hF];exact fq) (by rw[hI];exact⟨h6,by rw[hT];simp,Aq _,by simp,by simp;omega⟩) body
    ·rw[qia,Ad q]at hT;have hy4:4<=y.size:=by
      simp[varB,q6]at q;omega
     refine zu ?_;refine zcv (qbv h6) ?_;rintro v w8 ⟨rfl,h8⟩;(conv=>whnf);refine qj (fun i:Nat=>[(2,pp rt),(4,pp tb),(5,pp rb),(7,.string y),(8,ii i)])
      (fun i w9=>RQ w1 w9 O rb tb ys b0 vs [] []/\i<=vs.length/\∀(j:Nat) (hj:j<vs.length),j<i->lowS vs[j]≠lowS y)
      (fun i=>vs.length-i) 0 fq ⟨h8,by omega,fun j hj h0=>by omega⟩ ?_
     rintro i w9 ρ2 ⟨h9,hi,hd⟩;(conv=>whnf);obtain⟨VA,vc,hVS,hc4⟩:=h9.cell4;refine LoadV.of hc4 (zw ?_);refine zC (fun _=>zw ?_) (fun _=>zw ?_)
     ·have hil:i<vs.length:=by omega
      have hvi:=hv4 _ (AT hil);refine LoadV.of hc4 (zw ?_);refine ElemV.sl hVS rfl i rfl hil ?_;intro b2 off2 hcl2;(conv=>whnf);refine LoadV.cell0 hcl2 (zw ?_);refine zcv (qba vs[i] Oo w9) ?_;rintro v w10 ⟨rfl,he10⟩;(conv=>whnf);refine zcv (qba y Oo w10) ?_;rintro v w11 ⟨rfl,he11⟩;have h11:=(h9.call he10).call he11;cases q2:seq (lowS vs[i]) (lowS y)
      ·(conv=>whnf);rw[q2];refine zv ?_;refine⟨i+1,fq,⟨h11,by omega,fun j hj hji=>?_⟩,by omega⟩
       by_cases e:j=i
       ·subst e;intro e';rw[qac.2 e']at q2;cases q2
       ·exact hd j hj Oo
      ·have hin:lowS y∈vs.map lowS:=AY.2 ⟨_,AT hil,qac.1 q2⟩;rw[Ad hin]at hT;have hno:¬tagP l:=fun h=>by obtain⟨l1,h1,_⟩:=h;rw[hT]at h1;cases h1
       (conv=>whnf);rw[q2];refine zv ?_;refine StoreA.mem (hm1.call h11.ext) (i:=0) rfl (Aq 7) qd9 fun w9 hm9=>zw ?_;refine qh (R:=fun v w'=>TagV l v/\Ext w w') (zw ?_);refine zl hm9 0 ?_;exact⟨⟨_,_,_,_,_,_,_,qd9,by rw[qdg hno];rfl⟩,hm9.ext⟩
     ·have hno:lowS y∉vs.map lowS:=by
       intro h0;obtain⟨z,hz,e⟩:=AY.1 h0;obtain⟨j,hj,rfl⟩:=Cw.1 hz;exact hd j hj Oo e
      rw[Aa hno]at hT;clear hVS hc4;obtain⟨A,c,X,Y,a1,a2,a3,a6,L,h9⟩:=h9;obtain⟨VA,vc,e⟩:=(h9.rows.row 0 _ rfl).slice;simp only[AC]at e;subst e;refine LoadV.own (h9.mem.get h9.tg) rfl (zw ?_);refine NewV.rq0 h9 fun nb w10 h10 hnb=>zw ?_;refine h10.app4 hnb Oo ?_;intro B' d' w11 L' h11;(conv=>whnf);refine h11.st4 ?_;intro w12 h12;(conv=>whnf);refine⟨(vs++[y],ys,b0),fq,⟨h12,by rw[hT,AB];rfl,?_,by simp;omega⟩,by simp⟩;intro v hv
      rcases Ba.1 hv with hv|hv
      ·exact hv4 v hv
      ·obtain rfl:=Ah.1 hv;exact⟨hy4,hy⟩
  case p=>
   subst hF hI hmm;clear hT h6 hlen;rintro⟨k,r5,es⟩ w7 ρ2 ⟨h7,hT,hk,hes,hlen⟩;simp only at h7 hT hk hes hlen;dsimp only;have stop:∀z zs,r5=z::zs->extS z=false->tagR l=some r5:=by
    rintro z zs rfl hz;obtain⟨k,rfl⟩:∃k',k=k'+1:=⟨k-1,by simp at hk;omega⟩
    rw[hT,extN,Aa (by rw[hz];simp)]
   (conv=>whnf);refine h7.ldr ?_;intro A c hS hc;conv=>whnf
   rcases r5 with _|⟨y,ys⟩
   ·have hR:tagR l=some []:=by rw[hT];cases k<;>rfl
    refine Tst.no (AH Js) (zu ?_);refine h7.ldr ?_;intro A2 c2 hS2 hc2;(conv=>whnf);refine Tst.no (AH Js) (zu ?_);refine h7.ldr ?_;intro A3 c3 hS3 hc3;(conv=>whnf);refine zC (fun _=>zw ?_) (fun _=>zw ?_)
    ·rename_i hh;exact absurd hh Js
    refine h7.ldA ?_;intro s0 s1 s2 s3 A4 n4 c4 A5 n5 c5 s6 hone;(conv=>whnf);refine StoreA.mem (hm1.call h7.ext) (i:=0) rfl (Aq 7) hone fun w9 hm9=>zw ?_;refine qh (R:=fun v w'=>TagV l v/\Ext w w') (zw ?_);refine zl hm9 0 ?_;exact⟨⟨_,_,_,_,_,_,_,hone,by rw[ql6 ⟨[],hR,by rw[qoe,Aa (by simp[seeB])]⟩];rfl⟩,hm9.ext⟩
   ·simp only[As]at hc hlen hk|-;have hy:=h7.small y mh;refine Tst.yes (Az Oo) (zu ?_);refine h7.ldr ?_;intro A c hS hc;refine zu ?_;refine ElemV.sl hS rfl 0 rfl Js ?_;intro b off hcl;refine zu ?_;refine LoadV.cell0 hcl (zu ?_);refine zcv (qba y Oo w7) ?_;rintro v w8 ⟨rfl,he8⟩;have h8:=h7.call he8;refine zu ?_;rw[qv5];cases q:qe0 y
    ·refine zv ?_;refine h8.ldr ?_;intro A2 c2 hS2 hc2;refine zu ?_;refine ElemV.sl hS2 rfl 0 rfl Js ?_;intro b2 off2 hcl2;refine zu ?_;refine LoadV.cell0 hcl2 (zu ?_);refine zcv (qg5 y 1 1 Oo w8) ?_;rintro v w9 ⟨rfl,rfl⟩;cases q1:q6 y 1 1 false
     ·have hR:=stop y ys rfl (by rw[extS,q1];rfl);have hno:¬tagP l:=fun h=>by
       obtain⟨l1,h1,h2⟩:=h;rw[hR]at h1;cases h1;rw[qoe,Aa (by show ¬qe0 y=true;rw[q];simp)]at h2;cases h2
      refine zu ?_;refine h8.ldr ?_;intro A3 c3 hS3 hc3;(conv=>whnf);refine Tst.yes (Az (by simp only[As];omega)) (zu ?_);refine h8.ldr ?_;intro A4 c4 hS4 hc4;refine zu ?_;refine ElemV.sl hS4 rfl 0 rfl Js ?_;intro b3 off3 hcl3;refine zu ?_;refine LoadV.cell0 hcl3 (zu ?_);refine zcv (qba y Oo _) ?_;rintro v w9 ⟨rfl,he9⟩;have h9:=h8.call he9;refine zu ?_;rw[qv5,q];refine zv ?_;refine h9.ldr ?_;intro A5 c5 hS5 hc5;(conv=>whnf);refine Tst.yes (Az (by simp only[As];omega)) (zw ?_);refine StoreA.mem (hm1.call h9.ext) (i:=0) rfl (Aq 7) qd9 fun w9 hm9=>zw ?_;refine qh (R:=fun v w'=>TagV l v/\Ext w w') (zw ?_);refine zl hm9 0 ?_;exact⟨⟨_,_,_,_,_,_,_,qd9,by rw[qdg hno];rfl⟩,hm9.ext⟩
     ·refine zu ?_;have hy1:y.size=1:=by simp[q6]at q1;omega
      obtain⟨k,rfl⟩:∃k',k=k'+1:=⟨k-1,by omega⟩
      rw[extN,Ad (by rw[extS,q1,q];rfl)]at hT;refine zcv (qqu h8 hy1 hes Oo) ?_;rintro v w10 ⟨he10,(⟨hbad,rfl⟩|⟨hgood,rfl,h10⟩)⟩
      ·have hno:¬tagP l:=fun h=>by
        obtain⟨l1,h1,_⟩:=h;rw[hT,Ad (hbad.imp id fun⟨e,he,h9⟩=>Ai _ (AY.2 ⟨e,he,h9⟩))]at h1;cases h1
       refine zu ?_;refine StoreA.mem (hm1.call he10) (i:=0) rfl (Aq 7) qd9 fun w9 hm9=>zw ?_;refine qh (R:=fun v w'=>TagV l v/\Ext w w') (zw ?_);refine zl hm9 0 ?_;exact⟨⟨_,_,_,_,_,_,_,qd9,by rw[qdg hno];rfl⟩,hm9.ext⟩
      ·have hnot:¬(ys.takeWhile extQ=[]\/lowS y∈vs.map lowS++es.map qgh):=by
        rintro(h0|h0)
        ·exact hgood (.inl h0)
        ·rcases Ba.1 h0 with h0|h0
         ·obtain⟨z,hz,e⟩:=AY.1 h0;have e:=Af ByteArray.size e;rw[qra,qra]at e;have:=(hv4 z hz).1;omega
         ·obtain⟨z,hz,e⟩:=AY.1 h0;exact hgood (.inr ⟨z,hz,e⟩)
       rw[Aa hnot]at hT;obtain⟨f1,f2⟩:=q5n (l:=ys.takeWhile extQ) hy1;have hdl:(ys.dropWhile extQ).length+1<=ys.length+1:=by
        have:=(List.dropWhile_sublist extQ (l:=ys)).length_le;omega
       refine zu ?_;refine⟨(k,ys.dropWhile extQ,es++[jnS (y::ys.takeWhile extQ)]),fq,⟨h10,?_,by simp only;omega,?_,by simp only[zla,AZ];omega⟩,by simp only;omega⟩
       ·simp only[AB,AO,BM,f2];rw[hT,Ak]
       ·intro e he
        rcases Ba.1 he with he|he
        ·exact hes e he
        ·obtain rfl:=Ah.1 he;exact f1
    ·have hR:=stop y ys rfl (qtl q).2;refine zv ?_;refine h8.ldr ?_;intro A3 c3 hS3 hc3;(conv=>whnf);refine Tst.yes (Az (by simp only[As];omega)) (zu ?_);refine h8.ldr ?_;intro A4 c4 hS4 hc4;refine zu ?_;refine ElemV.sl hS4 rfl 0 rfl Js ?_;intro b3 off3 hcl3;refine zu ?_;refine LoadV.cell0 hcl3 (zu ?_);refine zcv (qba y Oo w8) ?_;rintro v w9 ⟨rfl,he9⟩;have h9:=h8.call he9;refine zu ?_;rw[qv5,q];refine zv ?_;refine zcv (qyg h9 (by simp only[As];omega)) ?_;rintro v w10 ⟨rfl,h10⟩;have hend:qoe (y::ys)↔ys≠[]/\ys.all qjz=true:=by rw[qoe,Ad (by exact q)];rfl
     rw[List.tail_cons];cases q2:(decide (ys≠[])&&ys.all qjz)
     ·have hno:¬tagP l:=fun h=>by
       obtain⟨l1,h1,h2⟩:=h;rw[hR]at h1;cases h1;have:=hend.1 h2;rw[Az this.1,this.2]at q2;cases q2
      refine zu ?_;refine StoreA.mem (hm1.call h10.ext) (i:=0) rfl (Aq 7) qd9 fun w9 hm9=>zw ?_;refine qh (R:=fun v w'=>TagV l v/\Ext w w') (zw ?_);refine zl hm9 0 ?_;exact⟨⟨_,_,_,_,_,_,_,qd9,by rw[qdg hno];rfl⟩,hm9.ext⟩
     ·have hok:tagP l:=by
       simp only[AJ,decide_eq_true_eq]at q2;exact⟨_,hR,hend.2 q2⟩
      refine zu ?_;refine h10.ldA ?_;intro s0 s1 s2 s3 A4 n4 c4 A5 n5 c5 s6 hone;(conv=>whnf);refine StoreA.mem (hm1.call h10.ext) (i:=0) rfl (Aq 7) hone fun w9 hm9=>zw ?_;refine qh (R:=fun v w'=>TagV l v/\Ext w w') (zw ?_);refine zl hm9 0 ?_;exact⟨⟨_,_,_,_,_,_,_,hone,by rw[ql6 hok];rfl⟩,hm9.ext⟩
structure TM where
 kind:Int
 text:E0
 type:E0
 lang:E0
def encT(t:TM):EE:=[ii t.kind,.string t.text,.string t.type,.string t.lang]
def qa8(t:TM):E8:=.agg #[ii t.kind,.string t.text,.string t.type,.string t.lang]
structure TermOk(t:TM):Prop where
 kind:InR .i64 t.kind
 text:t.text.size<=140737488355328
 type:t.type.size<=140737488355328
 lang:t.lang.size<=140737488355328
def qfp:E0:=⟨#[104,116,116,112,58,47,47,119,119,119,46,119,51,46,111,114,103,47,49,57,57,57,47,48,50,47,50,50,45,114,100,102,45,115,121,110,116,97,120,45,110,115,35,108,97,110,103,83,116,114,105,110,103]⟩
open Classical in
noncomputable def litE(t:TM):Nat:=
 if 65536<t.text.size then 2 else if scal t.text.data.toList=none then 40 else if iriE t.type≠0 then iriE t.type
 else if seq t.lang ⟨#[]⟩=false/\65536<t.lang.size then 2
 else if seq t.lang ⟨#[]⟩=false/\(tagE (qbf t.lang)≠0\/seq (lowS t.lang) t.lang=false)then 61
 else if(!seq t.lang ⟨#[]⟩)≠seq t.type qfp then 71 else 0
noncomputable def qaj(t:TM):Nat:=
 if t.kind=1\/t.kind=2 then(if seq t.type ⟨#[]⟩=false\/seq t.lang ⟨#[]⟩=false then 70 else if t.kind=1 then iriE t.text else if 65536<t.text.size then 2 else labE t.text)
 else if t.kind=3 then litE t else 70
theorem qnf(l:List E0):tagE l=0\/tagE l=61:=by
 by_cases h:tagP l
 ·exact .inl (ql6 h)
 ·exact .inr (qdg h)
theorem q8d(a:Int)(b:Nat)(w:Ez)(hb:w.heap[b]?=some (.cells #[ii a,ii 61] 61)):
  Gv EG 184 [.slice (some ⟨b,0,none⟩) 2 2] w fun v w'=>v=ii (if a=0 then 61 else a)/\w'=w:=by
 refine ze Tryz.func184 Tryz.ntmps184 ?_;refine qj (fun i:Nat=>[(3,ii 0),(6,.slice (some ⟨b,0,none⟩) 2 2),(7,ii 2),(8,ii i)]) (fun i w1=>i<=1/\(i=1->a=0)/\w1=w) (fun i=>2-i) 0 fq ⟨by omega,by omega,rfl⟩ ?_;rintro i w1 ρ' ⟨h1,h2,rfl⟩;obtain rfl|rfl:i=0\/i=1:=by omega
 ·refine zu ?_;refine ElemV.own1 0 rfl Oo (zw ?_);refine LoadV.of (by rw[qa hb];rfl) (zw ?_);refine zC (fun _=>zu ?_) (fun _=>zu ?_)
  ·exact⟨by rw[Aa Oo],rfl⟩
  ·exact⟨1,fq,⟨by omega,fun _=>by omega,rfl⟩,by omega⟩
 ·refine zu ?_;refine ElemV.own1 1 rfl Oo (zw ?_);refine LoadV.of (by rw[qa hb];rfl) (zu ?_);exact⟨by rw[Ad (h2 rfl)],rfl⟩
theorem qtb(t:TM)(ht:TermOk t)(w:Ez)(hM:MaxLenAt w):Gv EG 116 [qa8 t] w fun v w'=>v=ii (litE t)/\Ext w w':=by
 obtain⟨h1,h2,h3,h4⟩:=ht;refine ze Tryz.func116 Tryz.ntmps116 ?_;refine znm (Mem.nil w) fun b w1 hm=>zw ?_
 (repeat'(first|refine zC (fun _=>zw ?_) (fun _=>zw ?_)|refine LoadV.mem (i:=0) Oa rfl rfl (zw ?_)))
 ·exact⟨by rw[litE,Ad (show 65536<t.text.size by omega)];rfl,hm.ext⟩
 ·refine zcv (qqg t.text Oo w1) ?_;rintro v w2 ⟨⟨i,rfl,hi,hi1,hi2⟩,rfl⟩;have n1:¬65536<t.text.size:=by omega
  (conv=>whnf)
  (repeat'(first|refine zC (fun _=>zw ?_) (fun _=>zw ?_)|refine LoadV.mem (i:=0) Oa rfl rfl (zw ?_)))
  ·have hs:scal t.text.data.toList=none:=Bj fun h=>by have:=hi1 h;omega
   exact⟨by rw[litE,Aa n1,Ad hs];rfl,hm.ext⟩
  ·have n2:¬scal t.text.data.toList=none:=fun h=>by have:=hi2 h;omega
   refine zcv (qjm t.type Oo w2) ?_;rintro v w3 ⟨rfl,he3⟩;have hm:=hm.call he3;have eL:litE t=if iriE t.type≠0 then iriE t.type else if seq t.lang ⟨#[]⟩=false/\65536<t.lang.size then 2
     else if seq t.lang ⟨#[]⟩=false/\(tagE (qbf t.lang)≠0\/seq (lowS t.lang) t.lang=false)then 61 else if(!seq t.lang ⟨#[]⟩)≠seq t.type qfp then 71 else 0:=by rw[litE,Aa n1,Aa n2]
   rw[eL];conv=>whnf
   (repeat'(first|refine zp ?_|refine zC (fun _=>zw ?_) (fun _=>zw ?_)|refine LoadV.mem (i:=0) Oa rfl rfl (zw ?_)))
   ·exact⟨by rw[Ad Oo],hm.ext⟩
   ·rw[Aa Oo];cases hl:seq t.lang ⟨#[]⟩
    ·(conv=>whnf)
     (repeat'(first|refine zp ?_|refine zC (fun _=>zw ?_) (fun _=>zw ?_)|refine LoadV.mem (i:=0) Oa rfl rfl (zw ?_)))
     ·exact⟨by rw[Ad ⟨rfl,by omega⟩];rfl,hm.ext⟩
     ·rw[Aa (show ¬(false=false/\65536<t.lang.size)by omega)];refine zcv (qab8 t.lang Oo w3 (hM.ext hm.ext)) ?_;rintro v w4 ⟨⟨c0,c1,c2,c3,c4,c5,c6,hc,rfl⟩,he4⟩;have hm4:=hm.call he4;obtain⟨E,hE⟩:∃E,E=tagE (qbf t.lang):=⟨_,rfl⟩
      have hE2:=qnf (qbf t.lang);rw[<-hE]at hE2|-;(conv=>whnf);refine znm hm4 fun tb w5 hm5=>zw ?_;refine StoreA.mem hm5 (i:=0) rfl (Aq 7) hc fun w6 hm6=>zw ?_;have hlang:w6.cell? ⟨b,3,none⟩=some (.string t.lang):=by rw[qa (hm6.get (zmg (i:=1) rfl))];rfl
      rcases hE2 with rfl|rfl
      ·refine DrawV.free rfl Jk (zw ?_);(iterate 4 (refine zd ?_));refine zf ?_ (by intro wd hd;refine zu ?_;refine LoadV.of (Ext.cell (Ext.trans (Ext.drew xr) hd) hlang) ?_;(conv=>whnf);exact xq);apply zsd
       ·intro wd hd;refine zu ?_;refine zcv (qe8 t.lang Oo wd) ?_;rintro v w7 ⟨rfl,he7⟩;exact⟨he7,rfl⟩
       (conv=>whnf);refine zd ?_;refine zf ?_ (by intro wd hd;refine zu ?_;refine LoadV.of (Ext.cell (Ext.trans (Ext.drew xr) hd) hlang) ?_;(conv=>whnf);exact xq);refine zd ?_;refine zd ?_;intro wd hd;(conv=>whnf);have hm7:=hm6.drew.call hd;have hlang7:wd.cell? ⟨b,3,none⟩=some (.string t.lang):=by rw[qa (hm7.get (zmg (i:=1) rfl))];rfl
       have hty7:wd.cell? ⟨b,2,none⟩=some (.string t.type):=by rw[qa (hm7.get (zmg (i:=1) rfl))];rfl
       cases hlo:seq (lowS t.lang) t.lang
       ·rw[Ad ⟨rfl,.inr rfl⟩];refine zu ?_;refine znm hm7 fun ab w8 hm8=>zw ?_;refine zcv (q8d 0 ab w8 (hm8.get mh)) ?_;rintro v w9 ⟨rfl,rfl⟩;(conv=>whnf);exact⟨rfl,hm8.ext⟩
       ·rw[Aa Js];(conv=>whnf);refine zt ?_;refine LoadV.mem (i:=1) Oa rfl rfl (zw ?_);refine LoadV.mem (i:=1) Oa rfl rfl (zw ?_);refine zt ?_;show Tst ((!seq t.lang ⟨#[]⟩)==seq t.type qfp) _ _;rw[hl];cases ht:seq t.type qfp
        ·refine zu ?_;exact⟨rfl,hm7.ext⟩
        ·refine zu ?_;exact⟨rfl,hm7.ext⟩
      ·rw[Ad ⟨rfl,.inl Od⟩];refine DrawV.free rfl Jk (zw ?_);(iterate 10 (refine zd ?_));intro wd hd;(conv=>whnf);have hm7:=hm6.drew.call hd;refine zv ?_;refine znm hm7 fun ab w8 hm8=>zw ?_;refine zcv (q8d 61 ab w8 (hm8.get mh)) ?_;rintro v w9 ⟨rfl,rfl⟩;(conv=>whnf);exact⟨rfl,hm8.ext⟩
    ·rw[Aa Js,Aa Js];(conv=>whnf);refine zt ?_;refine LoadV.mem (i:=0) Oa rfl rfl (zw ?_);refine LoadV.mem (i:=0) Oa rfl rfl (zw ?_);refine zt ?_;show Tst ((!seq t.lang ⟨#[]⟩)==seq t.type qfp) _ _;rw[hl];cases ht:seq t.type qfp
     ·refine zu ?_;exact⟨rfl,hm.ext⟩
     ·refine zu ?_;exact⟨rfl,hm.ext⟩
theorem qh4(t:TM)(ht:TermOk t)(w:Ez)(hM:MaxLenAt w)(hT:CellsAt w 6 0 qbz):Gv EG 66 [qa8 t] w fun v w'=>v=ii (qaj t)/\Ext w w':=by
 have hlit:=fun w1 (he:Ext w w1)=>qtb t ht w1 (hM.ext he)
 obtain⟨h1,h2,h3,h4⟩:=ht;refine ze Tryz.func66 Tryz.ntmps66 ?_;refine znm (Mem.nil w) fun b w1 hm=>zw ?_;have hA:(t.kind=1\/t.kind=2)->qaj t=if seq t.type ⟨#[]⟩=false\/seq t.lang ⟨#[]⟩=false then 70 else if t.kind=1 then iriE t.text else if 65536<t.text.size then 2 else labE t.text:=fun h=>by rw[qaj,Ad h]
 have hB:¬(t.kind=1\/t.kind=2)->qaj t=if t.kind=3 then litE t else 70:=fun h=>by rw[qaj,Aa h]
 (repeat'(first|refine zp ?_|refine zC (fun _=>zw ?_) (fun _=>zw ?_)|refine LoadV.mem (i:=0) Oa rfl rfl (zw ?_)))
 ·rw[hA (.inl Oa)];cases hy:seq t.type ⟨#[]⟩
  ·refine zu ?_;exact⟨by rw[Ad (.inl rfl)];rfl,hm.ext⟩
  ·(conv=>whnf);refine zt ?_;refine LoadV.mem (i:=0) Oa rfl rfl (zw ?_);refine zt ?_;cases hl:seq t.lang ⟨#[]⟩
   ·refine zu ?_;exact⟨by rw[Ad (.inr rfl)];rfl,hm.ext⟩
   ·rw[Aa Js,Ad Oa];(conv=>whnf);refine zt ?_;refine LoadV.mem (i:=0) Oa rfl rfl (zw ?_);refine zt ?_;refine LoadV.mem (i:=0) Oa rfl rfl (zw ?_);refine zcv (qjm t.text Oo w1) ?_;rintro v w2 ⟨rfl,he⟩;(conv=>whnf);exact⟨rfl,hm.ext.trans he⟩
 ·rw[hA (.inr Oa)];cases hy:seq t.type ⟨#[]⟩
  ·refine zu ?_;exact⟨by rw[Ad (.inl rfl)];rfl,hm.ext⟩
  ·(conv=>whnf);refine zt ?_;refine LoadV.mem (i:=0) Oa rfl rfl (zw ?_);refine zt ?_;cases hl:seq t.lang ⟨#[]⟩
   ·refine zu ?_;exact⟨by rw[Ad (.inr rfl)];rfl,hm.ext⟩
   ·rw[Aa Js,Aa Oo];conv=>whnf
    (repeat'(first|refine zp ?_|refine zC (fun _=>zw ?_) (fun _=>zw ?_)|refine LoadV.mem (i:=0) Oa rfl rfl (zw ?_)))
    ·exact⟨by rw[Ad Oo];rfl,hm.ext⟩
    ·rw[Aa Oo];refine zcv (q1d t.text Oo w1 (hT.ext hm.ext)) ?_;rintro v w2 ⟨rfl,rfl⟩;(conv=>whnf);exact⟨rfl,hm.ext⟩
 ·rw[hB Oo,Ad Oa];refine zl hm 0 ?_;refine zcv (hlit w1 hm.ext) ?_;rintro v w2 ⟨rfl,he⟩;(conv=>whnf);exact⟨rfl,hm.ext.trans he⟩
 ·exact⟨by rw[hB Oo,Aa Oo];rfl,hm.ext⟩
theorem q56(d:Bool)(r:Nat)(l:EF):okT d (r::l)=((qds r||decide (r=46))&&okT (decide (r=46)) l):=rfl
theorem qnd(r0:Nat)(t:EF)(A:oA)(c:Nat)(w:Ez)(hA:SlAt zeI 1 w A ((r0::t).map Int.ofNat))(hl:t.length<=4000000000000):
  Gv EG 192 [.slice A (t.length+1) c] w fun v w'=>v=.bool (okT false t)/\Ext w w':=by
 refine ze Tryz.func192 Tryz.ntmps192 ?_;refine qj (fun x:Nat×Bool=>[(0,.slice A (t.length+1) c),(3,ii (x.1+1:Nat))]) (fun x w2=>x.1<=t.length/\okT false t=okT x.2 (t.drop x.1)/\(x.2=true->x.1<t.length)/\Ext w w2) (fun x=>t.length-x.1) (0,false) fq ⟨by simp,rfl,by simp,xr⟩ ?_;rintro⟨i,d⟩ w2 ρ' ⟨h1,h2,h3,he⟩;simp only at h1 h2 h3;dsimp only;(conv=>whnf);refine zC (fun _=>zw ?_) (fun _=>zw ?_)
 ·have hil:i<t.length:=by omega
  have hget:∀w' (_:Ext w w'),∃b off,A=some ⟨b,off,none⟩/\w'.cell? ⟨b,off+(i+1)*1,none⟩=some (ii t[i]):=fun w' he'=>by
   obtain⟨b,off,e1,e2⟩:=(hA.ext he').at_ Js;refine⟨b,off,e1,?_⟩;have:=e2 (i+1) (Int.ofNat t[i]) (by simp[hil]) 0 (ii t[i]) rfl
   simpa using this
  rw[Bu hil,q56]at h2;obtain⟨b,off,rfl,hc⟩:=hget w2 he;refine⟨b,off,i+1,rfl,by omega,by omega,?_⟩;(conv=>whnf);refine LoadV.of hc (zw ?_);refine zcv (qlm _ w2) ?_;rintro v w3 ⟨rfl,he3⟩;have hf46:qds 46=false:=by decide
  cases hf:qds t[i]
  ·rw[hf,Dx]at h2;refine zu ?_;refine⟨b,off,i+1,rfl,by omega,by omega,?_⟩;(conv=>whnf);obtain⟨b',off',e1,hc3⟩:=hget w3 (he.trans he3);cases e1;refine zv ?_;refine LoadV.of hc3 (zw ?_)
   (repeat'(first|refine zp ?_|refine zC (fun _=>zw ?_) (fun _=>zw ?_)))
   ·refine⟨Af Value.bool ?_,he.trans he3⟩;rw[h2,AH Oo];rfl
   ·refine⟨Af Value.bool ?_,he.trans he3⟩;rw[h2,Az Oo,Be Oo];rfl
   ·refine⟨(i+1,true),fq,⟨by simp only;omega,?_,by simp only;omega,he.trans he3⟩,by simp only;omega⟩;rw[h2,Az Oo,Dh]
  ·have hne:t[i]≠46:=by intro e;rw[e]at hf;rw[show((46:Nat):Int)=46 from rfl,hf46]at hf;cases hf
   rw[hf,Bool.true_or,Dh,AH hne]at h2;refine zu ?_;exact⟨(i+1,false),fq,⟨by simp only;omega,h2,by simp,he.trans he3⟩,by simp only;omega⟩
 ·refine⟨Af Value.bool ?_,he⟩;have hi:i=t.length:=by omega
  rw[h2,Be Oo];cases d with
  | false=>rfl
  | true=>have:=h3 rfl;omega
theorem qry(s:E0)(hs:s.size<=4000000000000)(w:Ez):
  Gv EG 120 [.string s] w fun v w'=>v=ii (labE s)/\Ext w w':=by
 have hsc:=qt3 s hs w;have hno:qb8 s=false->labE s=60:=fun h=>by rw[labE,Aa (by rw[h];simp)]
 have hyes:qb8 s=true->labE s=0:=fun h=>by rw[labE,Ad h]
 refine ze Tryz.func120 Tryz.ntmps120 ?_;refine zcv (hsc) ?_;rintro v w1 ⟨⟨hn,rfl⟩|⟨l,A,c,hl,rfl,hA,hlen⟩,he⟩
 ·have hL:qb8 s=false:=by rw[qb8,hn]
  refine zu ?_;exact⟨by rw[hno hL];rfl,he⟩
 ·have hL:qb8 s=labL l:=by rw[qb8,hl]
  cases l with
  | nil=>
   simp only[BP];refine zu ?_;exact⟨by rw[hno hL];rfl,he⟩
  | cons r0 t=>
   have hL:qb8 s=(labB r0&&okT false t):=hL;have hget:∀w' (_:Ext w1 w'),∃b off,A=some ⟨b,off,none⟩/\w'.cell? ⟨b,off+0*1,none⟩=some (ii r0):=fun w' he'=>by
    obtain⟨b,off,e1,e2⟩:=(hA.ext he').at_ Js;exact⟨b,off,e1,by simpa using e2 0 (Int.ofNat r0) Js 0 (ii r0) rfl⟩
   obtain⟨b,off,rfl,hc⟩:=hget w1 xr;simp only[As]at hlen|-;refine zu ?_;refine⟨b,off,0,rfl,by omega,by omega,?_⟩;refine zu ?_;refine LoadV.of hc (zu ?_);refine zcv (qgj _ w1) ?_;rintro v w2 ⟨rfl,he2⟩;cases hS:qgo r0
   ·refine zu ?_;refine⟨b,off,0,rfl,by omega,by omega,?_⟩;refine zu ?_;obtain⟨b',off',e1,hc2⟩:=hget w2 he2;cases e1;refine LoadV.of hc2 (zu ?_);refine zcv (qhv _ w2) ?_;rintro v w3 ⟨rfl,rfl⟩;cases hD:digN r0
    ·have hb:qb8 s=false:=by rw[hL,labB,hS,hD];rfl
     refine zu ?_;exact⟨by rw[hno hb];rfl,he.trans he2⟩
    ·have hb:labB r0=true:=by rw[labB,hS,hD];rfl
     refine zu ?_;refine zcv (qnd r0 t _ c w3 (hA.ext he2) Oo) ?_;rintro v w4 ⟨rfl,he4⟩;have hx:=he.trans (he2.trans he4);cases hO:okT false t
     ·have hb:qb8 s=false:=by rw[hL,hO,D2]
      refine zu ?_;exact⟨by rw[hno hb];rfl,hx⟩
     ·have hb:qb8 s=true:=by rw[hL,hb,hO];rfl
      refine zu ?_;exact⟨by rw[hyes hb];rfl,hx⟩
   ·have hb:labB r0=true:=by rw[labB,hS];rfl
    refine zu ?_;refine zcv (qnd r0 t _ c w2 (hA.ext he2) Oo) ?_;rintro v w4 ⟨rfl,he4⟩;have hx:=he.trans (he2.trans he4);cases hO:okT false t
    ·have hb:qb8 s=false:=by rw[hL,hO,D2]
     refine zu ?_;exact⟨by rw[hno hb];rfl,hx⟩
    ·have hb:qb8 s=true:=by rw[hL,hb,hO];rfl
     refine zu ?_;exact⟨by rw[hyes hb];rfl,hx⟩
theorem qq9(s:E0):seq (lowS s) s=true↔∀i,i<s.size->¬(65<=(gb s i).toNat/\(gb s i).toNat<=90):=by
 rw[qac]
 constructor
 ·intro h i hi hc;have e:=Af (fun b:E0=>b.data.toList[i]?) h;have hi':i<s.data.toList.length:=by simpa using hi
  simp only[lowS,Ao]at e;rw[zge hi']at e;have hg:s.data.toList[i]=gb s i:=by rw[gb,Ag,zge hi',CI]
  rw[hg]at e;have e:=BB e;have:=qoz (gb s i) hc;rw[e]at this;omega
 ·intro h;have e:s.data.toList.map lowB=s.data.toList:=by
   apply List.ext_getElem Js;intro i h1 h2;rw[Cx];have hg:s.data.toList[i]=gb s i:=by rw[gb,Ag,zge h2,CI]
   rw[hg];exact qo0 _ (h i (by simpa using h2))
  unfold lowS;rw[e]
theorem qmg(t:TM)(ht:TermOk t)(w:Ez):Gv EG 121 [qa8 t] w fun v w'=>v=ii (litE t)/\Ext w w':=by
 obtain⟨h1,h2,h3,h4⟩:=ht;refine ze Tryz.func121 Tryz.ntmps121 ?_;refine znm (Mem.nil w) fun b w1 hm=>zw ?_
 (repeat'(first|((with_reducible refine zC (fun _=>?_) (fun _=>?_))<;>first|(exfalso;omega)|(conv=>whnf))|(refine LoadV.mem (i:=0) Oa rfl rfl ?_;(conv=>whnf))))
 ·exact⟨by rw[litE,Ad (show 65536<t.text.size by omega)];rfl,hm.ext⟩
 ·have n1:¬65536<t.text.size:=by omega
  refine zcv (qjr t.text Oo w1) ?_;rintro v w2 ⟨⟨i,rfl,hi,hi1,hi2⟩,he2⟩;have hm:=hm.call he2;conv=>whnf
  (repeat'(first|((with_reducible refine zC (fun _=>?_) (fun _=>?_))<;>first|(exfalso;omega)|(conv=>whnf))|(refine LoadV.mem (i:=0) Oa rfl rfl ?_;(conv=>whnf))))
  ·have hs:scal t.text.data.toList=none:=Bj fun h=>by have:=hi1 h;omega
   exact⟨by rw[litE,Aa n1,Ad hs];rfl,hm.ext⟩
  ·have n2:¬scal t.text.data.toList=none:=fun h=>by have:=hi2 h;omega
   refine zcv (qfj t.type Oo w2) ?_;rintro v w3 ⟨rfl,he3⟩;have hm:=hm.call he3;have eL:litE t=if iriE t.type≠0 then iriE t.type else if seq t.lang ⟨#[]⟩=false/\65536<t.lang.size then 2
     else if seq t.lang ⟨#[]⟩=false/\(tagE (qbf t.lang)≠0\/seq (lowS t.lang) t.lang=false)then 61 else if(!seq t.lang ⟨#[]⟩)≠seq t.type qfp then 71 else 0:=by rw[litE,Aa n1,Aa n2]
   rw[eL];conv=>whnf
   (repeat'(first|((with_reducible refine zC (fun _=>?_) (fun _=>?_))<;>first|(exfalso;omega)|(conv=>whnf))|((with_reducible refine zP ?_))|(refine LoadV.mem (i:=0) Oa rfl rfl ?_;(conv=>whnf))))
   ·exact⟨by rw[Ad Oo],hm.ext⟩
   ·rw[Aa Oo];cases hl:seq t.lang ⟨#[]⟩
    ·(conv=>whnf)
     (repeat'(first|((with_reducible refine zU ?_);(conv=>whnf))|((with_reducible refine zC (fun _=>?_) (fun _=>?_))<;>first|(exfalso;omega)|(conv=>whnf))|(refine LoadV.mem (i:=0) Oa rfl rfl ?_;(conv=>whnf))))
     ·exact⟨by rw[Ad ⟨rfl,by omega⟩];rfl,hm.ext⟩
     ·rw[Aa (show ¬(false=false/\65536<t.lang.size)by omega)];refine zcv (qys t.lang Oo w3) ?_;rintro v w4 ⟨⟨c0,c1,c2,c3,c4,c5,c6,hc,rfl⟩,he4⟩;have hm4:=hm.call he4;obtain⟨E,hE⟩:∃E,E=tagE (qbf t.lang):=⟨_,rfl⟩
      have hE2:=qnf (qbf t.lang);rw[<-hE]at hE2|-;conv=>whnf
      rcases hE2 with rfl|rfl
      ·refine zN (fun _=>?_);(conv=>whnf);have lg:∀w5,Ext w4 w5->w5.cell? ⟨b,3,none⟩=some (.string t.lang):=fun w5 he5=>by rw[qa ((hm4.call he5).get (zmg (i:=0) rfl))];rfl
       refine qj (fun i:Nat=>[(1,pp b),(4,ii i)])
        (fun i w5=>Ext w4 w5/\i<=t.lang.size/\∀j,j<i->¬(65<=(gb t.lang j).toNat/\(gb t.lang j).toNat<=90))
        (fun i=>t.lang.size-i) 0 fq ⟨xr,by omega,fun j h0=>by omega⟩ ?_
       rintro i w5 ρ' ⟨he5,hi,hj⟩;have hm5:=hm4.call he5;(conv=>whnf);refine zr hm5 0 ?_
       (repeat'(first|(refine zA ?_;(conv=>whnf))|((with_reducible refine zT ?_);(conv=>whnf))|((with_reducible refine zU ?_);(conv=>whnf))|((with_reducible refine zC (fun _=>?_) (fun _=>?_))<;>first|(exfalso;omega)|(conv=>whnf))|((with_reducible refine zP ?_))|((with_reducible refine zX ?_);(conv=>whnf))|(refine LoadV.mem (i:=0) Oa rfl rfl ?_;(conv=>whnf))))
       ·have hlow:seq (lowS t.lang) t.lang=false:=Bx.2 fun h=>qq9 t.lang |>.1 h i Oo Oo
        exact⟨by rw[Ad ⟨rfl,.inr hlow⟩];rfl,hm5.ext⟩
       ·refine⟨i+1,fq,⟨he5,by omega,fun j hji=>?_⟩,by omega⟩
        by_cases e:j=i
        ·subst e;omega
        ·exact hj j Oo
       ·refine⟨i+1,fq,⟨he5,by omega,fun j hji=>?_⟩,by omega⟩
        by_cases e:j=i
        ·subst e;omega
        ·exact hj j Oo
       ·have hlow:seq (lowS t.lang) t.lang=true:=qq9 t.lang |>.2 fun j hj'=>hj j Oo
        rw[Aa (by rw[hlow];simp)];show Tst ((!seq t.lang ⟨#[]⟩)==seq t.type qfp) _ _;rw[hl];cases ht:seq t.type qfp
        ·(conv=>whnf);refine Tst.beqF ?_;refine zP ?_;refine zU ?_;(conv=>whnf);exact⟨rfl,hm5.ext⟩
        ·(conv=>whnf);refine Tst.beqT ?_;refine zP ?_;refine zU ?_;(conv=>whnf);exact⟨rfl,hm5.ext⟩
      ·(conv=>whnf);refine zY (fun _=>?_);(conv=>whnf);exact⟨by rw[Ad ⟨rfl,.inl Od⟩],hm4.ext⟩
    ·rw[Aa Js,Aa Js];(conv=>whnf);refine zT ?_;(conv=>whnf);(iterate 2 (refine LoadV.mem (i:=0) Oa rfl rfl ?_;(conv=>whnf)));refine zP ?_;show Tst ((!seq t.lang ⟨#[]⟩)==seq t.type qfp) _ _;rw[hl];cases ht:seq t.type qfp
     ·(conv=>whnf);refine Tst.beqF ?_;refine zP ?_;refine zT ?_;(conv=>whnf);exact⟨rfl,hm.ext⟩
     ·(conv=>whnf);refine Tst.beqT ?_;refine zP ?_;refine zT ?_;(conv=>whnf);exact⟨rfl,hm.ext⟩
theorem qbg(t:TM)(ht:TermOk t)(w:Ez):Gv EG 69 [qa8 t] w fun v w'=>v=ii (qaj t)/\Ext w w':=by
 have hlit:=fun w1=>qmg t ht w1
 obtain⟨h1,h2,h3,h4⟩:=ht;refine ze Tryz.func69 Tryz.ntmps69 ?_;refine znm (Mem.nil w) fun b w1 hm=>zw ?_;have hA:(t.kind=1\/t.kind=2)->qaj t=if seq t.type ⟨#[]⟩=false\/seq t.lang ⟨#[]⟩=false then 70 else if t.kind=1 then iriE t.text else if 65536<t.text.size then 2 else labE t.text:=fun h=>by rw[qaj,Ad h]
 have hB:¬(t.kind=1\/t.kind=2)->qaj t=if t.kind=3 then litE t else 70:=fun h=>by rw[qaj,Aa h]
 (repeat'(first|((with_reducible refine zC (fun _=>?_) (fun _=>?_))<;>first|(exfalso;omega)|(conv=>whnf))|((with_reducible refine zP ?_))|(refine LoadV.mem (i:=0) Oa rfl rfl ?_;(conv=>whnf))))
 ·rw[hA (.inl Oa)];cases hy:seq t.type ⟨#[]⟩
  ·(conv=>whnf);refine zU ?_;(conv=>whnf);(iterate 4 (refine zT ?_;(conv=>whnf)));exact⟨by rw[Ad (.inl rfl)];rfl,hm.ext⟩
  ·(conv=>whnf);refine zT ?_;(conv=>whnf);refine zU ?_;(conv=>whnf);refine LoadV.mem (i:=0) Oa rfl rfl (zw ?_);(iterate 2 (refine zU ?_;(conv=>whnf)));refine zP ?_;cases hl:seq t.lang ⟨#[]⟩
   ·(conv=>whnf);refine zU ?_;(conv=>whnf);exact⟨by rw[Ad (.inr rfl)];rfl,hm.ext⟩
   ·rw[Aa Js,Ad Oa];(conv=>whnf);refine zT ?_;(conv=>whnf);refine LoadV.mem (i:=0) Oa rfl rfl (zw ?_);refine zY (fun _=>?_);(conv=>whnf);refine LoadV.mem (i:=0) Oa rfl rfl (zw ?_);refine zcv (qfj t.text Oo w1) ?_;rintro v w2 ⟨rfl,he⟩;(conv=>whnf);exact⟨rfl,hm.ext.trans he⟩
 ·rw[hA (.inr Oa)];cases hy:seq t.type ⟨#[]⟩
  ·(conv=>whnf);refine zU ?_;(conv=>whnf);(iterate 4 (refine zT ?_;(conv=>whnf)));exact⟨by rw[Ad (.inl rfl)];rfl,hm.ext⟩
  ·(conv=>whnf);refine zT ?_;(conv=>whnf);refine zU ?_;(conv=>whnf);refine LoadV.mem (i:=0) Oa rfl rfl (zw ?_);(iterate 2 (refine zU ?_;(conv=>whnf)));refine zP ?_;cases hl:seq t.lang ⟨#[]⟩
   ·(conv=>whnf);refine zU ?_;(conv=>whnf);exact⟨by rw[Ad (.inr rfl)];rfl,hm.ext⟩
   ·rw[Aa Js,Aa Oo];conv=>whnf
    (repeat'(first|((with_reducible refine zT ?_);(conv=>whnf))|((with_reducible refine zC (fun _=>?_) (fun _=>?_))<;>first|(exfalso;omega)|(conv=>whnf))|(refine LoadV.mem (i:=0) Oa rfl rfl ?_;(conv=>whnf))))
    ·exact⟨by rw[Ad Oo];rfl,hm.ext⟩
    ·rw[Aa Oo];refine zcv (qry t.text Oo w1) ?_;rintro v w2 ⟨rfl,he⟩;(conv=>whnf);exact⟨rfl,hm.ext.trans he⟩
 ·rw[hB Oo,Ad Oa];refine zl hm 0 ?_;refine zcv (hlit w1) ?_;rintro v w2 ⟨rfl,he⟩;(conv=>whnf);exact⟨rfl,hm.ext.trans he⟩
 ·exact⟨by rw[hB Oo,Aa Oo];rfl,hm.ext⟩
open Go.RowKit
namespace V
theorem StoreA.all{t:E6}{K:EC}(h:Mem w0 w L)(hi:L[i]?=some (b,.cells cur t))(hl:cur.size=vs.length)(h1:∀v∈vs,v.oneCell'=true)(hk:∀w',Mem w0 w' (L.set i (b,.cells vs.toArray t))->K w'):StoreA P w b 0 vs K:=by
 refine StoreA.mem h hi Oo h1 fun w' hw=>hk w' ?_;have e:(cur.toList.take 0++vs++cur.toList.drop (0+vs.length)).toArray=vs.toArray:=by
  rw[Bz,Br,Be Ys,AI]
 rwa[e]at hw
end V
open V
theorem q1q:∀(x y:LB),Op.bytesLess x y=decide (x<y)
 | [],[]=>by simp[Op.bytesLess]
 | _::_,[]=>by simp[Op.bytesLess]
 | [],_::_=>by simp[Op.bytesLess]
 | a::x,b::y=>by
  rw[Op.bytesLess,q1q x y];simp only[BC]
  by_cases h1:a<b<;>by_cases h2:a=b<;>by_cases h3:x<y<;>simp[h1,h2,h3]
theorem qeo{a b:E0}:slt a b=true↔a.data.toList<b.data.toList:=by
 unfold slt;rw[q1q,ByteArray.toList_eq,ByteArray.toList_eq,decide_eq_true_iff]
theorem qd5(a:E0):slt a a=false:=by
 rw[<-D0,qeo];exact List.lt_irrefl _
theorem qfo{a b c:E0}(h:slt a b=true)(k:slt b c=true):slt a c=true:=by
 rw[qeo]at *;exact List.lt_trans h k
theorem qps(a b:E0):slt a b=true\/a=b\/slt b a=true:=by
 rw[qeo,qeo]
 by_cases h1:a.data.toList<b.data.toList
 ·exact .inl h1
 ·by_cases h2:b.data.toList<a.data.toList
  ·exact .inr (.inr h2)
  ·refine .inr (.inl ?_);have:=List.le_antisymm (List.not_lt.1 h2) (List.not_lt.1 h1);cases a;cases b;simpa using this
namespace V
def encB(c:E7):EE:=[.int .u8 c.toNat]
structure BS(w:Ez)(v:E8)(l:LB):Prop where
 h:∃A c,v=.slice A l.length c/\l.length<=c/\SlAt encB 1 w A l
theorem BS.ext{v:E8}(h:BS w v l)(he:Ext w w'):BS w' v l:=by
 obtain⟨A,c,h1,h2,h3⟩:=h;exact⟨A,c,h1,h2,h3.ext he⟩
theorem BS.nil(w:Ez):BS w (.slice none 0 0) []:=⟨none,0,rfl,by simp,⟨fun h=>absurd rfl h⟩⟩
theorem SlAt.cut{α:Type}{enc:α->EE}{size:Nat}{A':oA}{l:List α}(h:SlAt enc size w A l)(h1:lo<=hi)(h2:hi<=l.length)(h3:hi<=m)(e:A'=if m=lo then A else A.map (·.add (lo*size))):SlAt enc size w A' ((l.drop lo).take (hi-lo)):=by
 refine⟨fun hne=>?_⟩;have hlt:lo<hi:=by
  rcases AX lo hi with h|h
  ·exact h
  ·exact absurd (by rw[show hi-lo=0 by omega,Bz]) hne
 have hn:l≠[]:=by rintro rfl;simp at h2;omega
 obtain⟨b,off,rfl,hc⟩:=h.at_ hn;rw[Aa Oo]at e;simp only[B4,qan]at e;refine⟨b,off+lo*size,e,fun j x hx=>?_⟩;have hj:j<hi-lo:=by
  have:=(Ae.1 hx).1;simp at this;omega
 have hx':l[lo+j]?=some x:=by
  rw[Bc,Ad hj,Cr]at hx;exact hx
 have:=hc (lo+j) x hx'
 rwa[Eh,<-C7]at this
theorem SliceV.bs{n:Nat}{lo hi:Option E8}{K:E8->Prop}(hA:SlAt encB 1 w A l)(hl:l.length=n)(a b m:Nat)(h1:bnd lo 0 a)(h2:bnd hi n b)(h3:bnd mx c m)(hab:a<=b)(hbn:b<=n)(hbm:b<=m)(hm:m<=c)(hs:mx.isSome=true->hi.isSome=true)(hk:∀A',SlAt encB 1 w A' ((l.drop a).take (b-a))->K (.slice A' (b-a) (m-a))):SliceV 1 A n c lo hi mx K:=
 ⟨a,b,m,h1,h2,h3,hab,hbm,hm,hs,fun A' e=>hk A' (hA.cut hab Oo hbm e)⟩
theorem ElemV.bs{n:Nat}{i:Int}{K:E8->Prop}(hA:SlAt encB 1 w A l)(hl:l.length=n)(j:Nat)(e:i=(j:Int))(hj:j<n)(hk:∀b off,w.cell? ⟨b,off,none⟩=some (.int .u8 (l[j]'(hl ▸ hj)).toNat)->K (.pointer (some ⟨b,off,none⟩))):ElemV A i n 1 K:=
 ElemV.sl hA hl j e hj fun b off hc=>hk b off (by have:=hc 0 _ rfl;rwa[BH]at this)
structure Upd(w w':Ez)(b:Nat)(o:Obj):Prop where
 os:w'.os=w.os
 tape:w'.tape=w.tape
 output:w'.output=w.output
 size:w.heap.size<=w'.heap.size
 block:∀k,k<w.heap.size->k≠b->w'.heap[k]?=w.heap[k]?
 at_:w'.heap[b]?=some o
theorem Upd.refl{o:Obj}(h:w.heap[b]?=some o):Upd w w b o:=⟨rfl,rfl,rfl,Aq _,fun _ _ _=>rfl,h⟩
theorem Upd.of{o:Obj}(h:w.heap[b]?=some o)(he:Ext w w'):Upd w w' b o:=⟨he.os,he.tape,he.output,he.size,fun k hk _=>he.block k hk,he.get h⟩
theorem Upd.set{t:E6}{fr:Nat×Nat}{v:E8}(h:w.heap[b]?=some (.cells cs t fr))(hw:w'=w.setCell ⟨b,off,none⟩ v):Upd w w' b (.cells (cs.setIfInBounds off v) t fr):=by
 subst hw;exact⟨rfl,rfl,rfl,by simp[World.setCell],fun k _ hk=>Below.heap_setCell _ _ _ _ hk,heap_setCell h⟩
theorem Upd.trans{a b c:Ez}{o:Obj}(h:Upd a b k o)(h':Upd b c k o'):Upd a c k o':=
 ⟨h'.os.trans h.os,h'.tape.trans h.tape,h'.output.trans h.output,AU h.size h'.size,fun j hj hne=>(h'.block j (Bw hj h.size) hne).trans (h.block j hj hne),h'.at_⟩
theorem Upd.ext{o:Obj}(h:Upd w w' b o)(he:Ext w0 w)(hb:w0.heap.size<=b):Ext w0 w':=
 Below.trans he ⟨h.os,h.tape,h.output,h.size,fun k hk=>h.block k (Bw hk he.size) Oo⟩
theorem Mem.upd{o:Obj}(h:Mem w0 w L)(hi:L[i]?=some (b,o))(hu:Upd w w' b o'):Mem w0 w' (L.set i (b,o')):=by
 have hm:(b,o)∈L:=zmg hi;have hil:i<L.length:=(Ae.1 hi).1;have hib:L[i]=(b,o):=(Ae.1 hi).2;have hn:((L.set i (b,o')).map (·.1))=L.map (·.1):=by
  rw[Ev];apply BW;intro j;rw[BX]
  split
  ·rename_i e;subst e
   rw[Ao,hi];simp[hil]
  ·rfl
 refine⟨hu.ext h.ext (h.own _ hm).1,?_,by rw[hn];exact h.nodup⟩;intro x hx
 rcases Dp hx with hx' | rfl
 ·refine⟨(h.own x hx').1,?_⟩
  by_cases e:x.1=b
  ·obtain⟨j,hj,hje⟩:=Cw.1 hx
   by_cases hij:j=i
   ·subst hij;rw[List.getElem_set_self]at hje;rw[<-hje];exact hu.at_
   ·have h1:(L.map (·.1))[j]'(by simpa using hj)=b:=by
     have:(L.set i (b,o'))[j]=L[j]'(by simpa using hj):=List.getElem_set_ne (fun e=>hij e.symm) _;rw[Cx,<-this,hje,e]
    have h2:(L.map (·.1))[i]'(by simpa using hil)=b:=by rw[Cx,hib]
    have:=(List.getElem_inj h.nodup).1 (h1.trans h2.symm);exact absurd this hij
  ·rw[hu.block _ (h.lt (b:=x.1) (o:=x.2) hx') e];exact(h.own x hx').2
 ·exact⟨(h.own (b,o) hm).1,hu.at_⟩
end V
open Go.ChangeShapes Go.WideShapes Go.RowKit V
namespace V
section
variable {H:Type} {enc:E6×E8->H} {P:E4} {w:Ez} {t:E6}
theorem Opn.sliceR{α:Type}[Inhabited α]{en:α->EE}{R:α->Prop}{size e:Nat}{c:E8}(ht:P.underlying t=some (.slice e))(hc:P.cellsOf e=size)(hs0:0<size)(hen:∀x,(en x).length=size)(each:∀cs,Opn enc P w e cs->∃x,cs=en x/\R x)(h:Opn enc P w t [c]):
  ∃(A:oA) (cap:Nat) (l:List α),c=.slice A l.length cap/\l.length<=cap/\cap*P.bytesOf e<=140737488351232/\(∀x∈l,R x)/\SlAt en size w A l:=by
 obtain⟨n,d,ps,h,hw⟩:=h;have e2:reachBytes=140737488351232:=rfl
 rcases Deep.open_slice ht h with⟨h1,_⟩|⟨a,len,cap,m,n,D,Pl,h1,_,hlc,hcm,hm,hd,hx⟩
 ·refine⟨none,0,[],by simpa using h1,by simp,by simp,by simp,⟨fun h=>absurd rfl h⟩⟩
 ·simp only[if_true]at hm;simp only[Ef]at hd;obtain⟨rfl,_⟩:=hd;rw[DataW.weights,ht]at hw;simp only[AC,List.length_range]at hw;have hcap:=hw _ mh;rw[show len+(m-len)=cap by omega]at hcap;obtain⟨X,hX⟩:=Deep.choose_lt (n:=len) (p:=fun i (x:α)=>w.cells? 0 (a.add (i*P.cellsOf e)) (P.cellsOf e)=some (en x)/\R x) (fun i hi=>by
   obtain⟨cs,h2,h3⟩:=hx i Oo;obtain⟨x,rfl,hr⟩:=each cs ⟨n,D i,Pl i,h3,fun k hk=>hw k (zmc (Bb _ (qgi hk _ (AY.2 ⟨i,BY.2 hi,rfl⟩))))⟩;exact⟨x,h2,hr⟩)
  refine⟨some a,cap,(List.range len).map X,by simpa using h1,by simp;omega,by omega,fun s hs=>?_,⟨fun hn=>?_⟩⟩
  ·obtain⟨i,hi,rfl⟩:=AY.1 hs;exact(hX i (BY.1 hi)).2
  ·have hpos:0<len:=by
    rcases BZ len with h0|h0
    ·exact absurd (by rw[h0];rfl) hn
    ·exact h0
   have hs:a=⟨a.block,a.off,none⟩:=by
    obtain⟨_,_,h2⟩:=World.cells?_some (hX 0 hpos).1;have h3:=h2 0 Oo;rw[zge (by rw[hen];omega)]at h3;refine q3g (w:=w) (v:=(en (X 0))[0]'(by rw[hen];omega)) ?_
    simpa[Addr.add]using h3
   refine⟨a.block,a.off,by rw[<-hs],fun j s hj k v hv=>?_⟩;have hjl:j<len:=by
    have:=(Ae.1 hj).1
    simpa using this
   rw[Ao,Bt hjl]at hj;simp only[B4,Bp]at hj;subst hj;obtain⟨_,_,h2⟩:=World.cells?_some (hX j hjl).1;have hk:k<size:=by rw[<-hen (X j)];exact(Ae.1 hv).1
   have h3:=h2 k Oo;rw[hv,hs,qan,qan,hc]at h3;exact h3
end
end V
def qi5(i n:Nat):LB->Nat×Nat×Nat
 | []=>(0,0,10)
 | c::l=>if(i=9/\1<c.toNat)\/(0<i/\c.toNat=0)then(0,0,11)else if c.toNat<128 then(n+c.toNat%128*2 ^ (7*i),i+1,0)else qi5 (i+1) (n+c.toNat%128*2 ^ (7*i)) l
def numL(l:LB):Nat×Nat×Nat:=qi5 0 0 l
theorem qf1{n:Nat}{c:E7}:qi5 i n (c::l)=if(i=9/\1<c.toNat)\/(0<i/\c.toNat=0)then(0,0,11)else if c.toNat<128 then(n+c.toNat%128*2 ^ (7*i),i+1,0)else qi5 (i+1) (n+c.toNat%128*2 ^ (7*i)) l:=rfl
theorem qc2{k:IntKind}{a:Nat}(i:Nat)(ha:InR k ((a+b*2 ^ i:Nat):Int))(hb:a<2 ^ i):qex .or k (a:Int) ((b*2 ^ i:Nat):Int)=((a+b*2 ^ i:Nat):Int):=by
 have e:(a |||b*2 ^ i)=a+b*2 ^ i:=by
  rw[Nat.or_comm,CD b,CB];exact(Nat.two_pow_add_eq_or_of_lt hb b).symm
 rw[qso (InR.le ha Oo) (InR.le ha Oo) (by rw[e];exact ha),e]
theorem V.Wit.shlN{k:IntKind}{a:Nat}{b:Int}{K:Int->Prop}(n:Nat)(e:b=(n:Int))(hn:n<k.bits)(h:InR k ((a*2 ^ n:Nat):Int))(hk:K ((a*2 ^ n:Nat):Int)):
  Wit (fun r=>0<=b/\b<k.bits/\k.wrap ((a:Int)*2 ^ b.toNat)=r) K:=by
 subst e;have e2:(a:Int)*2 ^ ((n:Int).toNat)=((a*2 ^ n:Nat):Int):=by
  rw[Db];push_cast;rfl
 refine⟨_,⟨by omega,by omega,?_⟩,hk⟩;rw[e2];exact h.wrap
theorem pow7(i:Nat)(hi:i<=8):2 ^ (7*i)<=72057594037927936:=by
 have:2 ^ (7*i)<=2 ^ 56:=Bs Od Oo
 simpa using this
theorem qmw(i n c:Nat)(hi:i<=9)(hn:n<2 ^ (7*i))(hc:c<256)(h9:i=9->c<=1):c%128*2 ^ (7*i)<=9223372036854775808/\n+c%128*2 ^ (7*i)<2 ^ 64/\(i<9->n+c%128*2 ^ (7*i)<2 ^ (7*(i+1))):=by
 by_cases e:i=9
 ·subst e;have h1:=h9 rfl;have h2:c%128=c:=BD Oo;rw[h2];have hp:2 ^ (7*9)=9223372036854775808:=by decide
  rw[hp]at hn|-;have:c*9223372036854775808<=1*9223372036854775808:=BI _ h1;have e64:2 ^ 64=18446744073709551616:=by decide
  exact⟨by omega,by rw[e64];omega,fun h=>by omega⟩
 ·have hp:2 ^ (7*(i+1))=128*2 ^ (7*i):=by rw[Nat.mul_add,Ep];omega
  have hm:c%128*2 ^ (7*i)<=127*2 ^ (7*i):=BI _ Oo;have h7:=pow7 i Oo;have e64:2 ^ 64=18446744073709551616:=by decide
  exact⟨by omega,by rw[e64];omega,fun _=>by rw[hp];omega⟩
def numV(r:Nat×Nat×Nat):E8:=.tuple #[.int .u64 r.1,ii r.2.1,ii r.2.2]
theorem qko{n:Nat}(h:n<2 ^ 64):InR .u64 (n:Int):=by
 have e64:2 ^ 64=18446744073709551616:=by decide
 exact⟨by omega,by omega⟩
theorem q0t(l:LB)(i:Nat)(h:i<l.length):l.drop i=l[i]::l.drop (i+1):=Bu h
def curO(t:E6)(v:E8)(at_ e:Nat):Obj:=.cells #[v,ii at_,ii e] t
theorem q6a(b:Nat)(v:E8)(at_ e:Nat)(l:LB)(w:Ez)(hb:w.heap[b]?=some (curO 288 v at_ e))(hv:BS w v l)(hat:at_<=l.length)(_hl:l.length<=140737488355328):
  Gv EG 271 [pp b] w fun r w'=>r=numV (numL (l.drop at_))/\Ext w w':=by
 obtain⟨A,c,rfl,hc,hS⟩:=hv;refine ze Tryz.func271 Tryz.ntmps271 ?_;refine zy ?_;refine zv ?_;refine LoadV.own hb rfl (zu ?_);refine LoadV.own hb rfl (zu ?_);refine SliceV.bs hS rfl at_ l.length c rfl rfl rfl hat znr hc znr (fun h=>by cases h) ?_;intro A' hA';refine zu ?_;have hd0:(l.drop at_).take (l.length-at_)=l.drop at_:=AF Js;rw[hd0]at hA';obtain⟨m,hm⟩:∃m,m=l.drop at_:=⟨_,rfl⟩
 have hml:m.length=l.length-at_:=by rw[hm];simp
 rw[<-hm]at hA'|-;have hx:=(Ext.refl w).drew;have hA:=hA'.ext hx;refine qj (fun x:Nat×Nat=>[(16,.slice A' (l.length-at_) (c-at_)),(17,ii (l.length-at_:Nat)),(18,ii x.1),(5,.int .u64 x.2)]) (fun x w1=>x.1<=m.length/\x.1<=9/\x.2<2 ^ (7*x.1)/\numL m=qi5 x.1 x.2 (m.drop x.1)/\Ext w.drew w1) (fun x=>m.length-x.1) (0,0)
  fq ⟨by simp,by simp,by simp,by rw[BA];rfl,xr⟩ ?_
 rintro⟨i,n⟩ w1 ρ' ⟨h1,h9,hn,hd,he1⟩;dsimp only at h1 h9 hn hd|-;(conv=>whnf);refine zC (fun _=>zw ?_) (fun _=>zw ?_)
 ·have hi:i<m.length:=by omega
  rw[q0t m i hi,qf1]at hd;obtain⟨c0,hc0⟩:∃c0,c0=m[i]:=⟨_,rfl⟩
  have hlt:c0.toNat<256:=c0.toBitVec.isLt;rw[<-hc0]at hd;refine ElemV.bs (hA.ext he1) hml i rfl Oo ?_;intro eb eo hcell;rw[<-hc0]at hcell;(conv=>whnf);refine LoadV.of hcell (zw ?_)
  (repeat'(first|refine zp ?_|refine zC (fun _=>zw ?_) (fun _=>zw ?_)))
  all_goals first
   | exact⟨by rw[hd,Ad Oo];rfl,hx.trans he1⟩
   | skip
  all_goals
   rw[Aa Oo]at hd;obtain⟨g1,g2,g3⟩:=qmw i n c0.toNat h9 hn hlt Oo;refine Wit.eq (qbb (k:=.u8) (m:=c0.toNat) 7 rfl ⟨by omega,by omega⟩ ⟨by omega,by omega⟩) (zu ?_);refine V.Wit.shlN (7*i) Oo (by show 7*i<64;omega) (qko (by show c0.toNat%2 ^ 7*2 ^ (7*i)<_;rw[show 2 ^ 7=128 from rfl];omega)) (zw ?_);refine Wit.eq (qc2 (7*i) (qko g2) hn) (zw ?_)
   (repeat'(first|refine zp ?_|refine zC (fun _=>zw ?_) (fun _=>zw ?_)))
   all_goals first
    | (rw[Ad Oo]at hd;exact⟨by rw[hd];rfl,hx.trans he1⟩)
    | (rw[Aa Oo]at hd;exact⟨(i+1,n+c0.toNat%128*2 ^ (7*i)),fq,⟨by simp only;omega,by simp only;omega,g3 Oo,hd,he1⟩,by simp only;omega⟩)
 ·rw[Be Oo,qi5]at hd;exact⟨by rw[hd];rfl,hx.trans he1⟩
theorem qjq:∀(l:LB) (i n:Nat),i<=9->n<2 ^ (7*i)->(qi5 i n l).1<2 ^ 64/\(qi5 i n l).2.1<=i+l.length/\((qi5 i n l).2.2=0\/(qi5 i n l).2.2=10\/(qi5 i n l).2.2=11)
 | [],i,n,_,_=>⟨show 0<2 ^ 64 by decide,by simp[qi5],.inr (.inl rfl)⟩
 | c::l,i,n,hi,hn=>by
  rw[qf1]
  by_cases h1:(i=9/\1<c.toNat)\/(0<i/\c.toNat=0)
  ·rw[Ad h1];exact⟨by decide,Am _,.inr (.inr rfl)⟩
  ·rw[Aa h1];have hlt:c.toNat<256:=c.toBitVec.isLt;obtain⟨g1,g2,g3⟩:=qmw i n c.toNat hi hn hlt Oo
   by_cases h2:c.toNat<128
   ·rw[Ad h2];exact⟨g2,by simp only[As];omega,.inl rfl⟩
   ·rw[Aa h2];have:=qjq l (i+1) _ Oo (g3 Oo);refine⟨this.1,?_,this.2.2⟩;have:=this.2.1;simp only[As];omega
theorem qbp(l:LB):(numL l).1<2 ^ 64/\(numL l).2.1<=l.length/\((numL l).2.2=0\/(numL l).2.2=10\/(numL l).2.2=11):=by
 have:=qjq l 0 0 Oo Od
 rwa[Aw]at this
def varS(l:LB)(at_ e:Nat):Nat×Nat×Nat:=if e≠0 then(0,at_,e)else if(numL (l.drop at_)).2.2≠0 then(0,at_,(numL (l.drop at_)).2.2)else((numL (l.drop at_)).1,at_+(numL (l.drop at_)).2.1,0)
theorem q66(b:Nat)(v:E8)(at_ e:Nat)(l:LB)(w:Ez)(hb:w.heap[b]?=some (curO 288 v at_ e))(hv:BS w v l)(hat:at_<=l.length)(hl:l.length<=140737488355328):
  Gv EG 212 [pp b,.int .u64 18446744073709551615] w fun r w'=>r=.int .u64 (varS l at_ e).1/\Upd w w' b (curO 288 v (varS l at_ e).2.1 (varS l at_ e).2.2):=by
 have hpk:=q6a b v at_ e l w hb hv hat hl;obtain⟨g1,g2,g3⟩:=qbp (l.drop at_);rw[zld]at g2;have e64:2 ^ 64=18446744073709551616:=by decide
 refine ze Tryz.func212 Tryz.ntmps212 ?_;refine LoadV.own hb rfl (zw ?_);refine zC (fun _=>zw ?_) (fun _=>zw ?_)
 ·have hS:varS l at_ e=(0,at_,e):=by rw[varS,Ad Oo]
  rw[hS];exact⟨rfl,Upd.refl hb⟩
 ·have he0:e=0:=by omega
  subst he0;refine zcv (hpk) ?_;rintro r w1 ⟨rfl,he⟩;have hb1:=he.get hb;have hS:varS l at_ 0=if(numL (l.drop at_)).2.2≠0 then(0,at_,(numL (l.drop at_)).2.2)else((numL (l.drop at_)).1,at_+(numL (l.drop at_)).2.1,0):=by rw[varS,Aa Oo]
  (conv=>whnf);refine zC (fun _=>zu ?_) (fun _=>zu ?_)
  ·refine LoadV.own hb1 rfl (zu ?_);refine StoreV.own hb1 (show 1<3 by decide) rfl ?_;intro w2 hw;have hu:=(Upd.of hb he).trans (Upd.set hb1 hw);rw[hS,Aa Oo];(conv=>whnf);exact⟨rfl,hu⟩
  ·refine StoreV.own hb1 (show 2<3 by decide) rfl ?_;intro w2 hw;have hu:=(Upd.of hb he).trans (Upd.set hb1 hw);rw[hS,Ad Oo];(conv=>whnf);exact⟨rfl,hu⟩
theorem qc8(b:Nat)(v:E8)(at_ e:Nat)(l:LB)(w:Ez)(hb:w.heap[b]?=some (curO 288 v at_ e))(hv:BS w v l)(hat:at_<=l.length)(hl:l.length<=140737488355328):
  Gv EG 154 [pp b] w fun r w'=>r=.int .u64 (varS l at_ e).1/\Upd w w' b (curO 288 v (varS l at_ e).2.1 (varS l at_ e).2.2):=by
 refine ze Tryz.func154 Tryz.ntmps154 ?_;refine zcv (q66 b v at_ e l w hb hv hat hl) ?_;rintro r w1 ⟨rfl,hu⟩;(conv=>whnf);exact⟨rfl,hu⟩
def leN:LB->Nat
 | []=>0
 | c::l=>c.toNat+256*leN l
theorem q1l(l:LB):leN l<256 ^ l.length:=by
 induction l with
 | nil=>decide
 | cons c l ih=>
  have hlt:c.toNat<256:=c.toBitVec.isLt;rw[leN,As,DI];omega
theorem q1j(l m:LB):leN (l++m)=leN l+256 ^ l.length*leN m:=by
 induction l with
 | nil=>simp[leN]
 | cons c l ih=>
  rw[BL,leN,leN,ih,As,DI,Nat.mul_add,<-Nat.mul_assoc,CD 256 (256 ^ l.length)];omega
theorem qadn(h:4<=l.length):leN (l.take 4)=l[0].toNat+l[1].toNat*2 ^ 8+l[2].toNat*2 ^ 16+l[3].toNat*2 ^ 24:=by
 match l,h with
 | a::b::c::d::r,_=>simp only[BU,Bz,leN,Cs,Df];omega
theorem qadm(h:2<=l.length):leN (l.take 2)=l[0].toNat+l[1].toNat*2 ^ 8:=by
 match l,h with
 | a::b::r,_=>simp only[BU,Bz,leN,Cs,Df];omega
theorem qbj{n:Nat}(h:n<9223372036854775808):InR .i64 (n:Int):=⟨by omega,by omega⟩
theorem qa1(c:E7):c.toNat<256:=c.toBitVec.isLt
theorem qok(l:LB)(A:oA)(n c:Nat)(w:Ez)(hS:SlAt encB 1 w A l)(hn:l.length=n)(h4:4<=l.length):
  Gv EG 256 [.slice A n c] w fun v w'=>v=ii (leN (l.take 4))/\Ext w w':=by
 have hA:=hS.ext (Ext.refl w).drew;have b0:=qa1 l[0];have b1:=qa1 l[1];have b2:=qa1 l[2];have b3:=qa1 l[3];rw[qadn h4];refine ze Tryz.func256 Tryz.ntmps256 ?_;refine zy ?_;refine zv ?_;refine ElemV.bs hA hn 0 rfl Oo ?_;intro eb eo hc;refine zu ?_;refine LoadV.of hc (zu ?_);refine ElemV.bs hA hn 1 rfl Oo ?_;intro eb eo hc;refine zu ?_;refine LoadV.of hc (zu ?_);refine V.Wit.shlN 8 rfl Od (qbj Oo) (zu ?_);refine Wit.eq (qc2 8 (qbj Oo) b0) (zu ?_);refine ElemV.bs hA hn 2 rfl Oo ?_;intro eb eo hc;refine zu ?_;refine LoadV.of hc (zu ?_);refine V.Wit.shlN 16 rfl Od (qbj Oo) (zu ?_);refine Wit.eq (qc2 16 (qbj Oo) Oo) (zu ?_);refine ElemV.bs hA hn 3 rfl Oo ?_;intro eb eo hc;refine zu ?_;refine LoadV.of hc (zu ?_);refine V.Wit.shlN 24 rfl Od (qbj Oo) (zu ?_);refine Wit.eq (qc2 24 (qbj Oo) Oo) (zu ?_);exact⟨rfl,(Ext.refl w).drew⟩
theorem qacb(l:LB)(A:oA)(n c:Nat)(w:Ez)(hS:SlAt encB 1 w A l)(hn:l.length=n)(h4:2<=l.length):
  Gv EG 260 [.slice A n c] w fun v w'=>v=ii (leN (l.take 2))/\Ext w w':=by
 have hA:=hS.ext (Ext.refl w).drew;have b0:=qa1 l[0];have b1:=qa1 l[1];rw[qadm h4];refine ze Tryz.func260 Tryz.ntmps260 ?_;refine zy ?_;refine zv ?_;refine ElemV.bs hA hn 0 rfl Oo ?_;intro eb eo hc;refine zu ?_;refine LoadV.of hc (zu ?_);refine ElemV.bs hA hn 1 rfl Oo ?_;intro eb eo hc;refine zu ?_;refine LoadV.of hc (zu ?_);refine V.Wit.shlN 8 rfl Od (qbj Oo) (zu ?_);refine Wit.eq (qc2 8 (qbj Oo) b0) (zu ?_);exact⟨rfl,(Ext.refl w).drew⟩
namespace V
theorem Mem.fresh{o:Obj}(h:Mem w0 w L)(he:Ext w w')(hb:w.heap.size<=b)(ho:w'.heap[b]?=some o):Mem w0 w' ((b,o)::L):=by
 have h':=h.call he;refine⟨h'.ext,fun x hx=>?_,?_⟩
 ·rcases AD.1 hx with rfl|hx
  ·exact⟨AU h.ext.size hb,ho⟩
  ·exact h'.own x hx
 ·simp only[AO,DQ];refine⟨fun hm=>?_,h.nodup⟩;obtain⟨x,hx,e⟩:=AY.1 hm;have:=h.lt (b:=x.1) (o:=x.2) hx;omega
theorem Fall.max2{c:Call}{k:IntKind}{x y:Int}(ho:o.op=.call c)(hc:c.callee=.builtin .max)(ha0:evs ρ c.args.toList=[.int k x,.int k y])(h:∀m,m=max x y->K (.int k m) w):Fall P (execOp (ev ρ) o) w K:=by
 have e:execOp (ev ρ) o=(do pure (.value (<-Builtin.max_ c.argTypes o.type (c.args.map (ev ρ))))):=by
  simp only[execOp,ho,resolve,hc];rfl
 have ha:c.args.map (ev ρ)=#[.int k x,.int k y]:=by
  rw[qeu]at ha0;rw[<-Bf];simpa using ha0
 refine⟨.inl ⟨_,w,?_,h _ rfl⟩⟩;rw[e,ha];simp only[Sem.run_bind,run_max_int2,Result.andThen_ok,Sem.run_pure]
 congr 3
 rw[Int.max_def]
 split<;>(try split)<;>omega
theorem Fall.min2{c:Call}{k:IntKind}{x y:Int}(ho:o.op=.call c)(hc:c.callee=.builtin .min)(ha0:evs ρ c.args.toList=[.int k x,.int k y])(h:∀m,m=min x y->K (.int k m) w):Fall P (execOp (ev ρ) o) w K:=by
 have e:execOp (ev ρ) o=(do pure (.value (<-Builtin.min_ c.argTypes o.type (c.args.map (ev ρ))))):=by
  simp only[execOp,ho,resolve,hc];rfl
 have ha:c.args.map (ev ρ)=#[.int k x,.int k y]:=by
  rw[qeu]at ha0;rw[<-Bf];simpa using ha0
 refine⟨.inl ⟨_,w,?_,h _ rfl⟩⟩;rw[e,ha];simp only[Sem.run_bind,run_min_int2,Result.andThen_ok,Sem.run_pure]
 congr 3
 rw[Int.min_def]
 split<;>(try split)<;>omega
end V
theorem qem(v:E8)(l:LB)(w:Ez)(hv:BS w v l):
  Gv EG 132 [v] w fun r w'=>∃b,r=pp b/\w.heap.size<=b/\w'.heap[b]?=some (curO 288 v 0 0)/\Ext w w':=by
 obtain⟨A,c,rfl,hc,hS⟩:=hv;refine ze Tryz.func132 Tryz.ntmps132 ?_;refine⟨fun b w' hb hw=>?_⟩;subst hb hw;(conv=>whnf);exact⟨w.heap.size,rfl,Aq _,heap_alloc_new w _,(Ext.refl w).alloc _⟩
theorem qjj(b:Nat)(v:E8)(a e:Nat)(w:Ez)(hb:w.heap[b]?=some (curO 288 v a e)):Gv EG 137 [pp b] w fun r w'=>r=ii a/\w'=w:=by
 refine ze Tryz.func137 Tryz.ntmps137 ?_;refine LoadV.own hb rfl (zw ?_);exact⟨rfl,rfl⟩
theorem qcb(b:Nat)(v:E8)(a e:Nat)(w:Ez)(hb:w.heap[b]?=some (curO 288 v a e)):Gv EG 155 [pp b] w fun r w'=>r=ii e/\w'=w:=by
 refine ze Tryz.func155 Tryz.ntmps155 ?_;refine LoadV.own hb rfl (zw ?_);exact⟨rfl,rfl⟩
theorem qoy(b:Nat)(v:E8)(a e:Nat)(l:LB)(w:Ez)(hb:w.heap[b]?=some (curO 288 v a e))(hv:BS w v l)(ha:a<=l.length)(hl:l.length<=140737488355328):
  Gv EG 255 [pp b] w fun r w'=>r=ii (l.length-a:Nat)/\Ext w w':=by
 obtain⟨A,c,rfl,hc,hS⟩:=hv;refine ze Tryz.func255 Tryz.ntmps255 ?_;refine zy ?_;refine zv ?_;refine LoadV.own hb rfl (zu ?_);refine LoadV.own hb rfl (zu ?_);exact⟨Af (Value.int .i64) Oo,(Ext.refl w).drew⟩
theorem qx7(w:Ez):Gv EG 110 [ii 4] w fun r w'=>r=ii 4/\w'=w:=by
 refine ze Tryz.func110 Tryz.ntmps110 ?_;refine V.Fall.max2 rfl rfl rfl fun m hm=>?_;obtain rfl:m=4:=by omega
 (conv=>whnf);refine V.Fall.min2 rfl rfl rfl fun m hm=>?_;obtain rfl:m=4:=by omega
 (conv=>whnf);exact⟨rfl,rfl⟩
theorem q6z(b:Nat)(v:E8)(a n:Nat)(l:LB)(w:Ez)(hb:w.heap[b]?=some (curO 288 v a 0))(hv:BS w v l)(ha:a+n<=l.length)(hl:l.length<=140737488355328)(hlow:∀A c,v=.slice A l.length c->True):
  Gv EG 197 [pp b,ii n] w fun r w'=>(∃A' c',r=.slice A' n c'/\SlAt encB 1 w A' ((l.drop a).take n))/\Upd w w' b (curO 288 v (a+n) 0):=by
 have hleft:=qoy b v a 0 l w hb hv Oo hl;obtain⟨A,c,rfl,hc,hS⟩:=hv;refine ze Tryz.func197 Tryz.ntmps197 ?_;refine LoadV.own hb rfl (zu ?_);refine zcv (hleft) ?_;rintro r w1 ⟨rfl,he⟩;have hb1:=he.get hb;refine zu ?_;refine LoadV.own hb1 rfl (zu ?_);refine StoreV.own hb1 (show 1<3 by decide) rfl ?_;intro w2 hw;have hu:=(Upd.of hb he).trans (Upd.set hb1 hw);have hb2:w2.heap[b]?=some (curO 288 (.slice A l.length c) (a+n) 0):=hu.at_;(conv=>whnf);refine zy ?_;refine zv ?_;refine LoadV.own hb2 rfl (zu ?_);refine LoadV.own hb2 rfl (zu ?_);refine LoadV.own hb2 rfl (zu ?_);refine SliceV.bs hS rfl a (a+n) c (by show(((a+n:Nat):Int)-(n:Int))=(a:Int);omega) rfl rfl Oo ha Oo znr (fun h=>by cases h) ?_;intro A' hA';refine zu ?_;have e:a+n-a=n:=by omega
 rw[e]at hA'|-;exact⟨⟨A',_,rfl,hA'⟩,hu.trans (Upd.of hb2 (Ext.refl w2).drew)⟩
def qat(a b:TM):Bool:=decide (a.kind=b.kind)&&(seq a.text b.text&&(seq a.type b.type&&seq a.lang b.lang))
theorem qcg{a b:TM}:qat a b=true↔a=b:=by
 obtain⟨a0,a1,a2,a3⟩:=a;obtain⟨b0,b1,b2,b3⟩:=b;simp[qat,qac]
theorem qxn:EG.underlying 24=some (.struct (EG.fieldsOf 24)):=by kernel_rfl
theorem q3h:EG.stoodInHeld 24=false:=by kernel_rfl
theorem q0y:EG.eqGuardType EG.depth 24=false:=by kernel_rfl
theorem qbh(d:Nat)(a b:TM)(w:Ez):(Op.equalIn (d+2) 24 (qa8 a) (qa8 b)).run EG w=.ok (qat a b) w:=by
 have u3:=Tryz.underlying3;have a3:=Tryz.isAgg3;have z3:=Tryz.sizeOf3;have u9:=Tryz.underlying9;have a9:=Tryz.isAgg9;have z9:=Tryz.sizeOf9;simp only[qa8];rw[run_equalIn_agg w (d+1) _ _ _ qxn q3h];simp only[Program.fieldsOf,Tryz.underlying24]
 go_simp
 have e:∀x y:E0,(x.toList=y.toList)=(seq x y=true):=fun x y=>by rw[<-qmn,CU]
 simp only[e]
 by_cases h1:a.kind=b.kind<;>cases h2:seq a.text b.text<;>cases h3:seq a.type b.type<;>cases h4:seq a.lang b.lang<;>simp[qat,h1,h2,h3,h4]
namespace V
theorem RunV.eqTerm{op:BinOp}{a b:TM}(ho:op=.eql\/op=.neq)(h:K (.bool (bif eqOp op then qat a b else !qat a b)) w):
  RunV EG (do eqGuard op 24 xo yo (qa8 a) (qa8 b);binOp op 24 (qa8 a) (qa8 b)) w K:=by
 refine⟨_,w,?_,h⟩;rw[Sem.run_bind,qa8,qa8,run_eqGuard_agg w op _ xo yo _ _ q0y,Result.andThen_ok];have e:=qbh 9998 a b w;simp only[qa8]at e
 rcases ho with rfl|rfl
 ·rw[run_eql_struct,e];rfl
 ·rw[run_neq_struct,e];rfl
end V
def quy(t:TM):Bool:=decide (t.kind=0)&&(seq t.text ⟨#[]⟩&&(seq t.type ⟨#[]⟩&&seq t.lang ⟨#[]⟩))
def canB(k:Nat)(t:TM):Bool:=
 if k=0 then decide (t.kind=1)||decide (t.kind=2)else if k=1 then decide (t.kind=1)else if k=2 then decide (1<=t.kind)&&decide (t.kind<=3)else quy t||decide (t.kind=1)||decide (t.kind=2)
def qdk:EF->Nat
 | []=>0
 | e::l=>if e≠0 then e else qdk l
theorem qee{l:EF}(h:∀j (hj:j<l.length),l[j]=0):qdk l=0:=by
 induction l with
 | nil=>rfl
 | cons x l ih=>
  have h0:=h 0 Js;simp only[Cs]at h0;rw[qdk,Aa Oo];exact ih fun j hj=>by have:=h (j+1) Ys;rwa[Df]at this
theorem qkx{l:EF}(hk:k<l.length)(h:∀j (hj:j<l.length),j<k->l[j]=0)(hne:l[k]≠0):qdk l=l[k]:=by
 induction l generalizing k with
 | nil=>simp at hk
 | cons x l ih=>
  cases k with
  | zero=>simp only[Cs]at hne|-;rw[qdk,Ad hne]
  | succ k=>
   have h0:=h 0 Js Oo;simp only[Cs]at h0;rw[qdk,Aa Oo];simp only[Df]at hne|-;exact ih (by simpa using hk) (fun j hj hjk=>by have:=h (j+1) Ys Oo;rwa[Df]at this) hne
theorem CellsAt.mem{t:E6}{fr:Nat×Nat}(h:Mem w0 w L)(hi:(b,Obj.cells cs t fr)∈L):CellsAt w b 0 cs.toList:=fun k v hv=>by
 rw[qa (h.get hi),Aw]
 simpa using hv
namespace V
theorem StoreA.rwAll{v:E8}{size n:Nat}{t:E6}{K:EC}(h:Rw w0 w v e size n xs ((b,.cells cur t)::L))(hl:cur.size=vs.length)(h1:∀v∈vs,v.oneCell'=true)(hk:∀w',Rw w0 w' v e size n xs ((b,.cells vs.toArray t)::L)->K w'):StoreA P w b 0 vs K:=by
 have hg:=h.mem.get mh;have hb:v.ownBlock≠some b:=h.apart _ mh;have hr:=run_storeCells_at P b 0 t vs 0 cur w hg Ys h1;have ec:(cur.toList.take (0+0)++vs++cur.toList.drop (0+0+vs.length)).toArray=vs.toArray:=by
  rw[Bz,Br,Be Ys,AI]
 rw[ec]at hr;refine⟨_,hr,hk _ ⟨?_,?_,fun y hy=>?_⟩⟩
 ·have:=h.mem.set (i:=0) (b:=b) (o:=.cells cur t) (o':=.cells vs.toArray t) rfl (w':=w.setRow b vs.toArray) ?_ (qcl hg) (fun c hc=>qw hc)
  ·exact this
  ·exact Below.trans h.mem.ext ⟨rfl,rfl,rfl,by simp[World.setRow],fun k hk=>qw (by have:=(h.mem.own _ mh).1;simp only at this;omega)⟩
 ·refine h.own.kept (row:=some b) ⟨rfl,rfl,rfl,by simp[World.setRow],fun k _ hk=>qw (fun e=>hk (by simp[e]))⟩ (Or.inr hb)
 ·rcases AD.1 hy with rfl|hy
  ·exact hb
  ·exact h.apart y (zmc hy)
end V
theorem qy7(k:Nat)(t:TM)(w:Ez):Gv EG 65 [ii k,qa8 t] w fun v w'=>v=.bool (canB k t)/\Ext w w':=by
 refine ze Tryz.func65 Tryz.ntmps65 ?_;refine znm (Mem.nil w) fun b w1 hm=>zw ?_
 (repeat'(first|refine zp ?_|refine zC (fun _=>zw ?_) (fun _=>zw ?_)|refine LoadV.mem (i:=0) Oa rfl rfl (zw ?_)))
 ·exact⟨Af Value.bool (by rw[canB,Ad Oo];simp[*]),hm.ext⟩
 ·exact⟨Af Value.bool (by rw[canB,Ad Oo];simp[*]),hm.ext⟩
 ·exact⟨Af Value.bool (by rw[canB,Aa Oo,Ad Oo]),hm.ext⟩
 ·exact⟨Af Value.bool (by rw[canB,Aa Oo,Aa Oo,Ad Oo,AV];simp;omega),hm.ext⟩
 ·exact⟨Af Value.bool (by rw[canB,Aa Oo,Aa Oo,Ad Oo,AV];simp;omega),hm.ext⟩
 ·exact⟨Af Value.bool (by rw[canB,Aa Oo,Aa Oo,Ad Oo,AV];simp;omega),hm.ext⟩
 ·exact⟨Af Value.bool (by rw[canB,Aa Oo,Aa Oo,Aa Oo];simp[*]),hm.ext⟩
 ·exact⟨Af Value.bool (by rw[canB,Aa Oo,Aa Oo,Aa Oo];simp[*]),hm.ext⟩
 ·refine zl hm 0 ?_;refine zv ?_;refine RunV.eqTerm (a:=t) (b:=⟨0,⟨#[]⟩,⟨#[]⟩,⟨#[]⟩⟩) (.inl rfl) ?_;have hc:canB k t=(quy t||decide (t.kind=1)||decide (t.kind=2)):=by rw[canB,Aa Oo,Aa Oo,Aa Oo]
  have hz:qat t ⟨0,⟨#[]⟩,⟨#[]⟩,⟨#[]⟩⟩=quy t:=rfl;rw[hz];refine zu ?_;exact⟨Af Value.bool (by rw[hc];simp[*,eqOp]),hm.ext⟩
structure Q4 where
 s:TM
 p:TM
 o:TM
 g:TM
def Q4.at(q:Q4):Nat->TM
 | 0=>q.s
 | 1=>q.p
 | 2=>q.o
 | _=>q.g
def qd(q:Q4):EE:=encT q.s++(encT q.p++(encT q.o++encT q.g))
def qk(q:Q4):E8:=.agg #[ii q.s.kind,.string q.s.text,.string q.s.type,.string q.s.lang,ii q.p.kind,.string q.p.text,.string q.p.type,.string q.p.lang,
 ii q.o.kind,.string q.o.text,.string q.o.type,.string q.o.lang,ii q.g.kind,.string q.g.text,.string q.g.type,.string q.g.lang]
noncomputable def qE(k:Nat)(t:TM):Nat:=if canB k t=false then 70 else if k=3/\t.kind=0 then 0 else qaj t
noncomputable def qb6(q:Q4):Nat:=qdk ((List.range 4).map fun k=>qE k (q.at k))
theorem qt{q:Q4}(h:CellsAt w b off (qd q))(k:Nat)(hk:k<4):CellsAt w b (off+k*4) (encT (q.at k)):=by
 intro j v hv;have hj:j<4:=(Ae.1 hv).1;have:=h (k*4+j) v (by
  obtain rfl|rfl|rfl|rfl:k=0\/k=1\/k=2\/k=3:=by omega
  all_goals
   obtain rfl|rfl|rfl|rfl:j=0\/j=1\/j=2\/j=3:=by omega
   all_goals exact hv)
 rwa[<-C7]at this
theorem qad(t:TM):∀v∈encT t,v.oneCell'=true:=by
 intro v hv;simp only[encT,AD,Cu,or_false]at hv
 rcases hv with rfl|rfl|rfl|rfl<;>rfl
def qa9(q:Q4):Prop:=∀k,TermOk (q.at k)
theorem q2o(q:Q4)(k:Nat)(hk:k<4):((qk q).cells.toList.drop (k*4)).take 4=encT (q.at k):=by
 obtain rfl|rfl|rfl|rfl:k=0\/k=1\/k=2\/k=3:=by omega
 all_goals rfl
theorem qg6(q:Q4)(hq:qa9 q)(w:Ez)(hM:MaxLenAt w)(hT:CellsAt w 6 0 qbz):Gv EG 42 [qk q] w fun v w'=>v=ii (qb6 q)/\Ext w w':=by
 refine ze Tryz.func42 Tryz.ntmps42 ?_;refine znm (Mem.nil w) ?_;intro b w1 hm;have hc:CellsAt w1 b 0 (qd q):=CellsAt.mem hm mh;(conv=>whnf);refine LoadA.cells (qt hc 0 Oo) rfl (zw ?_);refine LoadA.cells (qt hc 1 Oo) rfl (zw ?_);refine LoadA.cells (qt hc 2 Oo) rfl (zw ?_);refine LoadA.cells (qt hc 3 Oo) rfl (zw ?_);have hlen:((List.range 4).map fun k=>qE k (q.at k)).length=4:=by simp
 have hget:∀j (hj:j<((List.range 4).map fun k=>qE k (q.at k)).length),((List.range 4).map fun k=>qE k (q.at k))[j]=qE j (q.at j):=fun j hj=>by simp
 refine qj (fun k:Nat=>[(1,pp b),(2,ii 0),(14,qk q),(15,ii k)])
  (fun k w'=>k<=4/\(∀j,j<k->qE j (q.at j)=0)/\Mem w w' [(b,.cells (qd q).toArray 26)]) (fun k=>4-k) 0 fq ⟨by omega,fun j h0=>by omega,hm⟩ ?_
 rintro k w2 ρ' ⟨k1,k2,hm2⟩;(conv=>whnf);refine zC (fun _=>zu ?_) (fun _=>zu ?_)
 ·have hk:k<4:=by omega
  have hbad:∀e,qE k (q.at k)=e->e≠0->qb6 q=e:=fun e he hne=>by
   rw[qb6,qkx (k:=k) (by rw[hlen];exact hk) (fun j hj hjk=>by rw[hget];exact k2 j hjk) (by rw[hget,he];exact hne),hget,he]
  have hgood:qE k (q.at k)=0->∀j,j<k+1->qE j (q.at j)=0:=fun he j hj=>by
   by_cases e:j=k
   ·subst e;exact he
   ·exact k2 j Oo
  refine Wit.eq (y:=encT (q.at k)) (q2o q k hk) (zw ?_);refine znm hm2 fun r w3 hm3=>zw ?_;refine StoreA.all (vs:=encT (q.at k)) hm3 (i:=0) rfl rfl (qad _) ?_;intro w4 hm4;have hm4:Mem w w4 [(r,.cells (encT (q.at k)).toArray 24),_]:=hm4;(conv=>whnf);refine zl hm4 0 ?_;refine zcv (qy7 k (q.at k) w4) ?_;rintro v w5 ⟨rfl,he5⟩;have hm5:=hm4.call he5;cases hcan:canB k (q.at k)
  ·refine zu ?_;exact⟨by rw[hbad 70 (by rw[qE,Ad hcan]) Od];rfl,hm5.ext⟩
  ·(conv=>whnf)
   (repeat'(first|refine zp ?_|refine zC (fun _=>zw ?_) (fun _=>zw ?_)|refine LoadV.mem (i:=0) Oa rfl rfl (zw ?_)))
   ·refine⟨?_,hm5.ext⟩;have e0:qE k (q.at k)=0:=by rw[qE,Aa (by rw[hcan];simp),Ad ⟨by omega,by omega⟩]
    have h4:=hgood e0;rw[qb6,qee fun j hj=>by rw[hget];exact h4 j (by rw[hlen]at hj;omega)];rfl
   all_goals
    have hE:qE k (q.at k)=qaj (q.at k):=by rw[qE,Aa (by rw[hcan];simp),Aa Oo]
    refine zl hm5 0 ?_;refine zcv (qh4 (q.at k) (hq k) w5 (hM.ext hm5.ext) (hT.ext hm5.ext)) ?_;rintro v w6 ⟨rfl,he6⟩;rw[<-hE];conv=>whnf
    (repeat'(first|refine zp ?_|refine zC (fun _=>zw ?_) (fun _=>zw ?_)))
    ·exact⟨by rw[hbad _ rfl Oo],hm5.ext.trans he6⟩
    ·exact⟨k+1,fq,⟨by omega,hgood Oo,(hm5.call he6).sub (AP ..)⟩,by omega⟩
 ·refine⟨?_,hm2.ext⟩;rw[qb6,qee fun j hj=>by rw[hget];exact k2 j (by rw[hlen]at hj;omega)];rfl
theorem qkc(l:LB)(i:Nat)(h:i<l.length):leN (l.take (i+1))=leN (l.take i)+l[i].toNat*2 ^ (8*i):=by
 rw[Bm h,q1j,AG,Dd Oo];have:(256:Nat) ^ i=2 ^ (8*i):=by rw[Nat.pow_mul]
 rw[this,leN,leN,Nat.mul_zero,BH,CD]
theorem qaw(l:LB)(i:Nat)(h:i<=l.length):leN (l.take i)<2 ^ (8*i):=by
 have:=q1l (l.take i);rw[AG,Dd h]at this;have e:(256:Nat) ^ i=2 ^ (8*i):=by rw[Nat.pow_mul]
 rwa[e]at this
theorem pow8(i:Nat)(hi:i<=4):2 ^ (8*i)<=4294967296:=by
 have:2 ^ (8*i)<=2 ^ 32:=Bs Od Oo
 simpa using this
theorem V.SlAt.upd{t:E6}{fr:Nat×Nat}{o:Obj}(h:SlAt encB 1 w A l)(hb:w.heap[b]?=some (.cells cs t fr))(hno:∀v∈cs.toList,∀n,v≠.int .u8 n)(hu:Upd w w' b o):SlAt encB 1 w' A l:=by
 refine⟨fun hne=>?_⟩;obtain⟨g,off,e,hc⟩:=h.at_ hne;refine⟨g,off,e,fun j x hx k v hv=>?_⟩;have h1:=hc j x hx k v hv;have hv8:v=.int .u8 x.toNat:=by
  cases k with
  | zero=>simpa[encB]using hv.symm
  | succ k=>simp[encB]at hv
 have hlt:g<w.heap.size:=by
  rcases AX g w.heap.size with h|h
  ·exact h
  ·unfold World.cell? at h1;rw[Bd h]at h1;cases h1
 have hgb:g≠b:=by
  rintro rfl;rw[qa hb]at h1;exact hno v (by rw[<-Cj]at h1;exact zmg h1) _ hv8
 unfold World.cell? at h1|-;rw[hu.block g hlt hgb];exact h1
theorem q9q{v:E8}{a e:Nat}(hv:∃A n c,v=.slice A n c):∀u∈(#[v,ii a,ii e]:EH).toList,∀n,u≠.int .u8 n:=by
 obtain⟨A,m,c,rfl⟩:=hv;intro u hu n;simp at hu
 rcases hu with rfl|rfl|rfl<;>simp
theorem qiq(b:Nat)(v:E8)(a:Nat)(l:LB)(w:Ez)(hb:w.heap[b]?=some (curO 288 v a 0))(hv:BS w v l)(ha:a+4<=l.length)(hl:l.length<=140737488355328):
  Gv EG 133 [pp b,ii 4] w fun r w'=>r=.int .u64 (leN ((l.drop a).take 4))/\Upd w w' b (curO 288 v (a+4) 0):=by
 have htk:=fun w=>q6z b v a 4 l w
 refine ze Tryz.func133 Tryz.ntmps133 ?_;refine zcv (qx7 w) ?_;rintro r w1 ⟨rfl,rfl⟩;(conv=>whnf);refine zcv (htk w1 hb hv ha hl (fun _ _ _=>trivial)) ?_;rintro r w2 ⟨⟨A',c',rfl,hS⟩,hu⟩;(conv=>whnf);have hv':=hv;obtain⟨A,c,hvv,_,_⟩:=hv';have hS2:SlAt encB 1 w2 A' ((l.drop a).take 4):=V.SlAt.upd hS hb (q9q ⟨_,_,_,hvv⟩) hu;obtain⟨m,hm⟩:∃m,m=(l.drop a).take 4:=⟨_,rfl⟩
 have hml:m.length=4:=by rw[hm];simp;omega
 rw[<-hm]at hS2|-;refine qj (fun i:Nat=>[(11,.slice A' 4 c'),(12,ii 4),(13,ii i),(5,.int .u64 (leN (m.take i)))]) (fun i w3=>i<=4/\w3=w2) (fun i=>4-i) 0 fq ⟨by omega,rfl⟩ ?_;rintro i w3 ρ' ⟨i1,rfl⟩;(conv=>whnf);refine zC (fun _=>zw ?_) (fun _=>zw ?_)
 ·have hi:i<m.length:=by omega
  have hb4:=qa1 m[i];have hp:=pow8 (i+1) Oo;have hlt:=qaw m (i+1) Oo;rw[qkc m i hi]at hlt;refine ElemV.bs hS2 hml i rfl Oo ?_;intro eb eo hc;(conv=>whnf);refine LoadV.of hc (zu ?_);have e64:2 ^ 64=18446744073709551616:=by decide
  refine V.Wit.shlN (8*i) Oo (by show 8*i<64;omega) (qko Oo) (zw ?_);refine Wit.eq (qc2 (8*i) (qko Oo) (qaw m i Oo)) (zu ?_);exact⟨i+1,⟨rfl,rfl,rfl,by rw[qkc m i hi];rfl,trivial⟩,⟨by omega,rfl⟩,by omega⟩
 ·rw[AF Oo];exact⟨rfl,hu⟩
structure ErrAt(w:Ez)(v:E8)(place code:Nat):Prop where
 h:∃b,v=.iface 255 (pp b)/\CellsAt w b 0 [ii place,.iface 61 (ii code)]
theorem ErrAt.ext{v:E8}{p:Nat}(h:ErrAt w v p c)(he:Ext w w'):ErrAt w' v p c:=by
 obtain⟨b,h1,h2⟩:=h;exact⟨b,h1,h2.ext he⟩
theorem qgv(p c:Nat)(w:Ez):Gv EG 131 [ii p,ii c] w fun v w'=>ErrAt w' v p c/\Ext w w':=by
 refine ze Tryz.func131 Tryz.ntmps131 ?_;refine znm (Mem.nil w) fun b w1 hm=>zw ?_;exact⟨⟨b,rfl,CellsAt.mem hm mh⟩,hm.ext⟩
def poly:BitVec 32:=0xedb88320#32
def nibs:EF:=[0x00000000,0x1db71064,0x3b6e20c8,0x26d930ac,0x76dc4190,0x6b6b51f4,0x4db26158,0x5005713c,0xedb88320,0xf00f9344,0xd6d6a3e8,0xcb61b38c,0x9b64c2b0,0x86d3d2d4,0xa00ae278,0xbdbdf21c]
def nib(i:Nat):BitVec 32:=BitVec.ofNat 32 (nibs.getD i 0)
def qnx(r:BitVec 32)(d:Bool):BitVec 32:=(r >>> 1) ^^^ (if(r.getLsbD 0 ^^ d)=true then poly else 0#32)
def qdu(r:BitVec 32):BitVec 32:=qnx r false
def half(r:BitVec 32):BitVec 32:=nib (r.toNat%16) ^^^ (r >>> 4)
theorem xlc(a b c:BitVec 32):a ^^^ (b ^^^ c)=b ^^^ (a ^^^ c):=by rw[<-BitVec.xor_assoc,BitVec.xor_comm a b,BitVec.xor_assoc]
theorem xss(a b:BitVec 32):a ^^^ (a ^^^ b)=b:=by rw[<-BitVec.xor_assoc,BitVec.xor_self,BitVec.zero_xor]
theorem qhn(a b:BitVec 32):qdu (a ^^^ b)=qdu a ^^^ qdu b:=by
 unfold qdu qnx;rw[BitVec.ushiftRight_xor_distrib,BitVec.getLsbD_xor];cases a.getLsbD 0<;>cases b.getLsbD 0<;>simp[BitVec.xor_assoc,BitVec.xor_comm,xlc,xss]
theorem qxg(r d:BitVec 32):qdu (r ^^^ d)=qnx r (d.getLsbD 0) ^^^ (d >>> 1):=by
 unfold qdu qnx;rw[BitVec.ushiftRight_xor_distrib,BitVec.getLsbD_xor,Bool.xor_false,BitVec.xor_assoc,BitVec.xor_assoc,BitVec.xor_comm (d >>> 1)]
theorem qf0{h:BitVec 32}(h0:h.getLsbD 0=false):qdu h=h >>> 1:=by
 unfold qdu qnx;rw[h0];simp
theorem qte(h:BitVec 32)(h0:h.getLsbD 0=false)(h1:h.getLsbD 1=false)(h2:h.getLsbD 2=false)(h3:h.getLsbD 3=false):qdu (qdu (qdu (qdu h)))=h >>> 4:=by
 rw[qf0 h0,qf0 (h:=h >>> 1) (by simpa using h1),qf0 (h:=h >>> 1 >>> 1) (by simpa using h2),qf0 (h:=h >>> 1 >>> 1 >>> 1) (by simpa using h3)];rw[<-BitVec.shiftRight_add,<-BitVec.shiftRight_add,<-BitVec.shiftRight_add]
theorem qx5:∀i,i<16->qdu (qdu (qdu (qdu (BitVec.ofNat 32 i))))=nib i:=by decide
theorem q8b(r:BitVec 32):qdu (qdu (qdu (qdu r)))=half r:=by
 have hlow:r &&&15#32=BitVec.ofNat 32 (r.toNat%16):=by
  apply BitVec.eq_of_toNat_eq;rw[BitVec.toNat_and,BitVec.toNat_ofNat];have:r.toNat &&&15=r.toNat%2 ^ 4:=Ed r.toNat 4;show r.toNat &&&15=_;rw[this];have:=r.isLt;exact(BD Oo).symm
 have hsplit:r=(r &&&15#32) ^^^ (r &&&0xfffffff0#32):=by
  ext i hi
  simp only[BitVec.getElem_xor,BitVec.getElem_and];have:((15#32)[i] ^^ (0xfffffff0#32)[i])=true:=by
   have:∀i (hi:i<32),((15#32)[i] ^^ (0xfffffff0#32)[i])=true:=by decide
   exact this i hi
  cases r[i]<;>simp_all
 have hh:(r &&&0xfffffff0#32) >>> 4=r >>> 4:=by
  ext i hi
  simp only[BitVec.getElem_ushiftRight,BitVec.getLsbD_and]
  by_cases h:4+i<32
  ·have:∀j,j<28->(0xfffffff0#32).getLsbD (4+j)=true:=by decide
   rw[this i Oo,Dy]
  ·rw[BitVec.getLsbD_of_ge _ _ Oo];simp
 have hz:∀j,j<4->(r &&&0xfffffff0#32).getLsbD j=false:=fun j hj=>by
  rw[BitVec.getLsbD_and];have:∀j,j<4->(0xfffffff0#32).getLsbD j=false:=by decide
  rw[this j hj,D2]
 conv=>lhs;rw[hsplit]
 rw[qhn,qhn,qhn,qhn,qte _ (hz 0 Od) (hz 1 Od) (hz 2 Od) (hz 3 Od),hh,hlow,qx5 _ (CV _ Od)];rfl
def qyo(r:BitVec 32)(b:E7):Nat->BitVec 32
 | 0=>r
 | k+1=>qnx (qyo r b k) (b.toNat.testBit k)
def thr(r:BitVec 32)(b:E7):BitVec 32:=half (half (r ^^^ BitVec.ofNat 32 b.toNat))
theorem qabl(r:BitVec 32)(b:E7)(k:Nat):(Nat.repeat qdu k (r ^^^ BitVec.ofNat 32 b.toNat))=qyo r b k ^^^ (BitVec.ofNat 32 b.toNat >>> k):=by
 induction k with
 | zero=>simp[Nat.repeat,qyo]
 | succ k ih=>
  rw[Nat.repeat,ih,qxg,qyo]
  congr 1
  ·congr 1
   rw[BitVec.getLsbD_ushiftRight,BitVec.getLsbD_ofNat,BH]
   by_cases h:k<32
   ·simp[h]
   ·have hb:b.toNat<256:=b.toBitVec.isLt;have:=Nat.testBit_lt_two_pow (Bw hb (AU (by decide:(256:Nat)<=2 ^ 32) (Bs Od (by omega:32<=k))));simp[h,this]
theorem q2x(r:BitVec 32)(b:E7):qyo r b 8=thr r b:=by
 have h:=qabl r b 8;have hz:BitVec.ofNat 32 b.toNat >>> 8=0#32:=by
  apply BitVec.eq_of_toNat_eq;have hb:b.toNat<256:=b.toBitVec.isLt;rw[BitVec.toNat_ushiftRight,BitVec.toNat_ofNat,DM,BD Oo];show b.toNat/256=0;omega
 rw[hz,BitVec.xor_zero]at h;rw[<-h,thr,<-q8b,<-q8b];rfl
def updL(r:BitVec 32)(l:LB):BitVec 32:=l.foldl thr r
def crcL(l:LB):BitVec 32 := ~~~ (updL (~~~ 0#32) l)
theorem qsg(r:BitVec 32)(l:LB)(i:Nat)(h:i<l.length):updL r (l.take (i+1))=thr (updL r (l.take i)) l[i]:=by
 unfold updL;rw[Bm h,List.foldl_append];rfl
def qjy:EE:=nibs.map fun n:Nat=>Value.int .u32 (n:Int)
theorem bx(x y:BitVec 32):qex .xor .u32 (x.toNat:Int) (y.toNat:Int)=((x ^^^ y).toNat:Int):=by
 have h1:BitVec.ofInt 32 (x.toNat:Int)=x:=by apply BitVec.eq_of_toNat_eq;rw[BitVec.toNat_ofInt];have:=x.isLt;omega
 have h2:BitVec.ofInt 32 (y.toNat:Int)=y:=by apply BitVec.eq_of_toNat_eq;rw[BitVec.toNat_ofInt];have:=y.isLt;omega
 show IntKind.u32.wrap ((BitVec.ofInt 32 (x.toNat:Int) ^^^ BitVec.ofInt 32 (y.toNat:Int)).toNat:Int)=_;rw[h1,h2];have:=(x ^^^ y).isLt;exact InR.wrap (k:=.u32) ⟨by omega,by omega⟩
theorem bnot(x:BitVec 32):qex .xor .u32 (if IntKind.u32.signed then -1 else IntKind.u32.max) (x.toNat:Int)=((~~~x).toNat:Int):=by
 have h:(if IntKind.u32.signed then -1 else IntKind.u32.max)=((BitVec.allOnes 32).toNat:Int):=by decide
 rw[h,bx,BitVec.allOnes_xor]
theorem qaa0(b:E7):(BitVec.ofNat 32 b.toNat).toNat=b.toNat:=by
 have:=qa1 b;rw[BitVec.toNat_ofNat,BD Oo]
theorem qaat(i:Nat)(hi:i<16):(nib i).toNat=nibs.getD i 0:=by
 have:∀i,i<16->(nib i).toNat=nibs.getD i 0:=by decide
 exact this i hi
theorem qv2(x:BitVec 32):qex .xor .u32 ((nibs.getD (x.toNat%16) 0:Nat):Int) ((x.toNat/16:Nat):Int)=((half x).toNat:Int):=by
 have h2:(x >>> 4).toNat=x.toNat/16:=by rw[BitVec.toNat_ushiftRight,DM]
 rw[<-qaat _ (CV _ Od),<-h2,bx];rfl
theorem qwc(hT:CellsAt w 1 0 qjy)(i:Nat)(hi:i<16):w.cell? ⟨1,0+i*1,none⟩=some (.int .u32 ((nibs.getD i 0:Nat):Int)):=by
 have h:i<nibs.length:=hi;have:=hT i (.int .u32 ((nibs.getD i 0:Nat):Int)) (by rw[qjy,Ao,zge h,Ag,zge h];rfl)
 rwa[Bk]
theorem qw6(x:BitVec 32):x.toNat<4294967296:=x.isLt
theorem qub(r:BitVec 32)(b:E7)(w:Ez)(hT:CellsAt w 1 0 qjy):
  Gv EG 177 [.int .u32 r.toNat,.int .u8 b.toNat] w fun v w'=>v=.int .u32 (thr r b).toNat/\w'=w:=by
 have hb:=qa1 b;obtain⟨x,hx⟩:∃x,x=r ^^^ BitVec.ofNat 32 b.toNat:=⟨_,rfl⟩
 have h0:=qw6 x;have h1:=qw6 (half x);have ht:thr r b=half (half x):=by rw[hx];rfl
 rw[ht];refine ze Tryz.func177 Tryz.ntmps177 ?_;refine zv ?_;refine Wit.eq (y:=(x.toNat:Int)) (by rw[hx,<-bx,qaa0]) (zw ?_);refine Wit.eq (qbb (k:=.u32) (m:=x.toNat) 4 rfl ⟨by omega,by omega⟩ ⟨by omega,by omega⟩) (zw ?_);refine IdxV.nat (CV _ Od) (zw ?_);refine LoadV.of (qwc hT _ (CV _ Od)) (zw ?_);refine Wit.shr (m:=16) (r:=((x.toNat/16:Nat):Int)) ⟨by decide,by decide⟩ Od Oo (zw ?_);refine Wit.eq (qv2 x) (zw ?_);refine Wit.eq (qbb (k:=.u32) (m:=(half x).toNat) 4 rfl ⟨by omega,by omega⟩ ⟨by omega,by omega⟩) (zw ?_);refine IdxV.nat (CV _ Od) (zw ?_);refine LoadV.of (qwc hT _ (CV _ Od)) (zw ?_);refine Wit.shr (m:=16) (r:=(((half x).toNat/16:Nat):Int)) ⟨by decide,by decide⟩ Od Oo (zw ?_);refine Wit.eq (qv2 (half x)) (zw ?_);exact⟨rfl,rfl⟩
theorem qzc(l:LB)(A:oA)(n c:Nat)(w:Ez)(hS:SlAt encB 1 w A l)(hn:l.length=n)(hl:l.length<=140737488355328)(hT:CellsAt w 1 0 qjy):
  Gv EG 113 [.int .u32 0,.slice A n c] w fun v w'=>v=.int .u32 (crcL l).toNat/\w'=w:=by
 subst hn;refine ze Tryz.func113 Tryz.ntmps113 ?_;refine Wit.eq (bnot 0#32) (zw ?_);refine qj (fun i:Nat=>[(10,.slice A l.length c),(11,ii l.length),(12,ii i),(5,.int .u32 (updL (~~~ 0#32) (l.take i)).toNat)]) (fun i w1=>i<=l.length/\w1=w) (fun i=>l.length-i) 0 fq ⟨by omega,rfl⟩ ?_;rintro i w1 ρ' ⟨h1,rfl⟩;(conv=>whnf);refine zC (fun _=>zw ?_) (fun _=>zw ?_)
 ·have hi:i<l.length:=by omega
  refine ElemV.bs hS rfl i rfl hi ?_;intro eb eo hc;(conv=>whnf);refine LoadV.of hc (zw ?_);refine zcv (qub _ l[i] w1 hT) ?_;rintro v w1 ⟨rfl,rfl⟩;refine zu ?_;exact⟨i+1,⟨rfl,rfl,rfl,by rw[qsg _ _ _ hi];rfl,trivial⟩,⟨by omega,rfl⟩,by omega⟩
 ·refine Wit.eq (bnot _) (zw ?_);rw[AF Oo];exact⟨rfl,rfl⟩
theorem qab5(l:LB)(A:oA)(n c:Nat)(w:Ez)(hS:SlAt encB 1 w A l)(hn:l.length=n)(hl:l.length<=140737488355328)(hT:CellsAt w 1 0 qjy):
  Gv EG 64 [.slice A n c] w fun v w'=>v=.int .u32 (crcL l).toNat/\w'=w:=by
 refine ze Tryz.func64 Tryz.ntmps64 ?_;refine zcv (qzc l A n c w hS hn hl hT) ?_;rintro v w1 ⟨rfl,rfl⟩;(conv=>whnf);exact⟨rfl,rfl⟩
theorem qaaf(r:BitVec 32):r.toNat%2=if r.getLsbD 0=true then 1 else 0:=by
 rw[BitVec.getLsbD,Nat.testBit_zero]
 rcases Nat.mod_two_eq_zero_or_one r.toNat with h|h<;>rw[h]<;>simp
theorem qad9(r:BitVec 32)(d:Bool):qex .xor .u32 ((r.toNat%2:Nat):Int) ((bif d then 1 else 0:Nat):Int)=((bif (r.getLsbD 0 ^^ d)then 1 else 0:Nat):Int):=by
 rw[qaaf];cases r.getLsbD 0<;>cases d<;>decide
theorem qtt(r:BitVec 32)(d:Bool)(w:Ez):Gv EG 254 [.int .u32 r.toNat,.int .u8 (bif d then 1 else 0:Nat)] w fun v w'=>v=.int .u32 (qnx r d).toNat/\w'=w:=by
 have h0:=qw6 r;have hd:(bif d then 1 else 0:Nat)<=1:=by cases d<;>decide
 have hs:(r >>> 1).toNat=r.toNat/2:=by rw[BitVec.toNat_ushiftRight,DM]
 refine ze Tryz.func254 Tryz.ntmps254 ?_;refine Wit.eq (qbb (k:=.u32) (m:=r.toNat) 1 rfl ⟨by omega,by omega⟩ ⟨by omega,by omega⟩) (zu ?_);refine Wit.eq (qad9 r d) (zw ?_);refine Wit.shr (m:=2) (r:=((r.toNat/2:Nat):Int)) ⟨by decide,by decide⟩ Od Oo (zw ?_);cases hx:(r.getLsbD 0 ^^ d)
 ·refine Tst.no Od (zw ?_);refine⟨?_,rfl⟩;rw[qnx,hx,Aa Js,BitVec.xor_zero,hs]
 ·refine Tst.yes Od (zw ?_);refine Wit.eq (y:=(((r >>> 1) ^^^ poly).toNat:Int)) (by rw[<-bx,hs];rfl) (zw ?_);refine⟨?_,rfl⟩;rw[qnx,hx,Ad rfl]
theorem qpo(l:LB)(A:oA)(n c:Nat)(w:Ez)(hS:SlAt encB 1 w A l)(hn:l.length=n)(hl:l.length<=140737488355328):
  Gv EG 196 [.int .u32 0,.slice A n c] w fun v w'=>v=.int .u32 (crcL l).toNat/\w'=w:=by
 subst hn;refine ze Tryz.func196 Tryz.ntmps196 ?_;refine Wit.eq (bnot 0#32) (zw ?_);refine qj (fun i:Nat=>[(1,.slice A l.length c),(6,ii i),(5,.int .u32 (updL (~~~ 0#32) (l.take i)).toNat)]) (fun i w1=>i<=l.length/\w1=w) (fun i=>l.length-i) 0 fq ⟨by omega,rfl⟩ ?_;rintro i w1 ρ' ⟨h1,rfl⟩;(conv=>whnf);refine zC (fun _=>zw ?_) (fun _=>zw ?_)
 ·have hi:i<l.length:=by omega
  have hb:=qa1 l[i];refine qj (fun k:Nat=>[(1,.slice A l.length c),(6,ii i),(7,ii k),(5,.int .u32 (qyo (updL (~~~ 0#32) (l.take i)) l[i] k).toNat)]) (fun k w2=>k<=8/\w2=w1) (fun k=>8-k) 0 fq ⟨by omega,rfl⟩ ?_;rintro k w2 ρ' ⟨k1,rfl⟩;(conv=>whnf);refine zC (fun _=>zu ?_) (fun _=>zu ?_)
  ·refine ElemV.bs hS rfl i rfl hi ?_;intro eb eo hc;(conv=>whnf);refine LoadV.of hc (zw ?_);have hk:2 ^ k<=128:=AU (Bs Od (show k<=7 by omega)) Od;obtain⟨q,hq⟩:∃q,q=l[i].toNat/2 ^ k:=⟨_,rfl⟩
   have hdiv:q<=l[i].toNat:=by rw[hq];exact DA ..
   refine Wit.shr (m:=((2 ^ k:Nat):Int)) (r:=(q:Int)) ⟨by omega,by show(k:Int)<8;omega⟩ (by rw[Db];push_cast;rfl) (by rw[hq,Int.natCast_ediv]) (zw ?_);refine Wit.eq (qbb (k:=.u8) (m:=q) 1 rfl ⟨by omega,by omega⟩ ⟨by omega,by omega⟩) (zw ?_);have hbit:q%2 ^ 1=bif l[i].toNat.testBit k then 1 else 0:=by
    rw[Nat.testBit_eq_decide_div_mod_eq,<-hq,Nat.pow_one]
    rcases Nat.mod_two_eq_zero_or_one q with h|h<;>rw[h]<;>decide
   rw[hbit];refine zcv (qtt _ (l[i].toNat.testBit k) w2) ?_;rintro v w2 ⟨rfl,rfl⟩;refine zu ?_;exact⟨k+1,fq,⟨by omega,rfl⟩,by omega⟩
  ·have hk:k=8:=by omega
   subst hk;exact⟨i+1,⟨rfl,rfl,by rw[qsg _ _ _ hi,<-q2x];rfl,trivial⟩,⟨by omega,rfl⟩,by omega⟩
 ·refine Wit.eq (bnot _) (zw ?_);rw[AF Oo];exact⟨rfl,rfl⟩
theorem qyr(l:LB)(A:oA)(n c:Nat)(w:Ez)(hS:SlAt encB 1 w A l)(hn:l.length=n)(hl:l.length<=140737488355328):
  Gv EG 130 [.slice A n c] w fun v w'=>v=.int .u32 (crcL l).toNat/\w'=w:=by
 refine ze Tryz.func130 Tryz.ntmps130 ?_;refine zcv (qpo l A n c w hS hn hl) ?_;rintro v w1 ⟨rfl,rfl⟩;(conv=>whnf);exact⟨rfl,rfl⟩
end Go.Proofs.YtacnkdagblbgfaaGreatDoor
