/- Lemmas and contracts of functions on the way to the law's card (part 11 of 20). -/
import Derived.Test.YtccmcfpmknpccaaGreatDoorSA10
namespace Go.Proofs.YtccmcfpmknpccaaGreatDoor
set_option maxHeartbeats 8000000
open Go.RowKit V
set_option maxHeartbeats 8000000
set_option maxRecDepth 100000
variable {w w' w0:DU} {b base c i j k m off:Nat} {ahead l s:LB} {v0 v1 v2 v3 x y:DZ} {kind:Int} {out ts:List TM} {e:DX} {A:oA} {news vs xs:Ee} {s3:Bool} {P:DW} {L:Ed} {cur:Eh}
structure PackAt(w:DU)(b:Nat)(l:LB):Prop where
 h:∃vb tb,w.heap[b]?=some (.cells #[ii (hN l 2),ii (hN l 3),ii (hN l 4),ii (hN l 5),pp vb,pp tb] 241)/\VocAt w vb (qh l)/\TreeAt w tb (qj l)
theorem PackAt.ext(h:PackAt w b l)(H:Ext w w'):PackAt w' b l:=by
 obtain⟨U,V,W,Z,h3⟩:=h;exact⟨U,V,H.get W,Z.ext H,h3.ext H⟩
theorem qgl(h:(qcd l).2=0):l.length=hN l 4+hN l 5+36/\l.length<=67108864:=by
 unfold qcd at h
 split at h
 ·cases h
 split at h
 ·cases h
 split at h
 ·cases h
 split at h
 ·cases h
 split at h
 ·cases h
 split at h
 ·cases h
 split at h
 ·cases h
 omega
theorem qjr(h:(qcd l).2=0):(qh l).length=hN l 4:=by
 have:=qgl h;rw[qh,Az,zld];omega
theorem qmi(h:(qcd l).2=0):(qj l).length=hN l 5:=by
 have:=qgl h;rw[qj,Az,zld];omega
theorem qaan(h:(packE l).2=0):(qcd l).2=0/\(wE (qh l)).2=0/\(tE (qj l)).2=0:=by
 unfold packE at h
 grind
theorem qaav(l:LB)(A:oA)(c:Nat)(w:DU)(hS:SlAt encB 1 w A l)(hc:l.length<=c)(hl:l.length<=140737488355328)(hT:CellsAt w 3 0 qmd)(hE:(packE l).2=0)(hV:∀k,0<k->k<4->tVec (qj l) k=true):
  Gv Eg 37 [.slice A l.length c] w λv w'=>(∃b,v=.tuple #[pp b,.nilIface]/\PackAt w' b l)/\Ext w w':=by
 obtain⟨Z,U,ht⟩:=qaan hE;refine ze Tryz.func37 Tryz.ntmps37 ?_;refine zcv (q3i l A c w hS hc hl hT Z) ?_;rintro v w1 ⟨⟨A',B',rfl,hA,hB⟩,aa⟩;have ad:=qjr Z;have ae:=qmi Z;have ai:=qgl Z;refine znm (Mem.nil w1) ?_;intro t4 w2 V;refine StoreA.all V (i:=0) rfl rfl (by simp[okF,Value.oneCell']) λw3 V=>zu ?_;refine zL V 0 ?_;have af:=hA.ext V.ext;have ag:=hB.ext V.ext;refine zcv (q5s l A' B' w3 95 96 (λb w=>VocAt w b (qh l)) (λb w=>TreeAt w b (qj l)) (λb w w' h W=>h.ext W) (λb w w' x fz h H hw=>h.other H Od Od (λv U c=>by simp only[AB,BQ,or_false]at U;subst U;intro e;cases e) hw) (λb w w' h W=>h.ext W) (λb w w' x fz h H hw=>h.other H (λk c e=>by cases e) hw) (λw' H=>?_) (λw' H=>?_)) ?_
 ·have:=q1r (qh l) A' (hN l 4) w' (af.ext H) Oo Oo U;rw[ad]at this;exact this
 ·have:=qabv (qj l) B' (hN l 5) w' (ag.ext H) Oo Oo ht hV;rw[ae]at this;exact this.mono λv aj ⟨⟨b,h1,_,h2⟩,W⟩=>⟨⟨b,h1,h2⟩,W⟩
 rintro v w4 ⟨⟨b,vb,tb,rfl,hb,U,ht⟩,ah⟩;(conv=>whnf);exact⟨⟨b,rfl,vb,tb,hb,U,ht⟩,(aa.trans V.ext).trans ah⟩
def pS1(l:LB):Prop:=(crcL (qh l)).toNat=leN ((l.drop (28+hN l 4)).take 4)
def pS2(l:LB):Prop:=(crcL (qj l)).toNat=leN ((l.drop (32+hN l 4+hN l 5)).take 4)
def qaj5(l:LB)(i:Nat):Prop:=(∀j,j<4->qcl (qh l) (tNum (qj l) i j)≠none)/\qbo (q4Of (qh l) (tNum (qj l) i))=0
def q0n(l:LB):Prop:=∀i,i<vNum (qj l) 3->qaj5 l i
def q5p(l:LB):Prop:=∀id,1<=id->id<=vTot (qh l) 3->∃i,i<vNum (qj l) 3/\∃j,j<4/\tNum (qj l) i j=id
open Classical in
noncomputable def poE(l:LB):Nat×Nat:=
 if(qcd l).2≠0 then qcd l else if ¬pS1 l then(28+hN l 4,30)else if ¬pS2 l then(32+hN l 4+hN l 5,30)
 else if(vwE (qh l)).2≠0 then(28+(vwE (qh l)).1,(vwE (qh l)).2)else if(toE (qj l)).2≠0 then(32+hN l 4+(toE (qj l)).1,(toE (qj l)).2)
 else if vNum (qj l) 3≠hN l 2 then(8,180)else if vTot (qh l) 3≠hN l 3 then(12,170)
 else if ¬q0n l then(32+hN l 4,180)else if ¬q5p l then(28,170)else(0,0)
section
variable {l:LB}
theorem qaas(h:(qcd l).2≠0):poE l=qcd l:=by rw[poE,Ad h]
theorem qaj1(h:(qcd l).2=0)(H:¬pS1 l):poE l=(28+hN l 4,30):=by grind [poE]
theorem qaj2(h:(qcd l).2=0)(H:pS1 l)(U:¬pS2 l):poE l=(32+hN l 4+hN l 5,30):=by grind [poE]
theorem qak6(h:(qcd l).2=0)(H:pS1 l)(U:pS2 l)(V:(vwE (qh l)).2≠0):poE l=(28+(vwE (qh l)).1,(vwE (qh l)).2):=by
 grind [poE]
theorem qak5(h:(qcd l).2=0)(H:pS1 l)(U:pS2 l)(V:(vwE (qh l)).2=0)(W:(toE (qj l)).2≠0):poE l=(32+hN l 4+(toE (qj l)).1,(toE (qj l)).2):=by
 grind [poE]
theorem qak4(h:(qcd l).2=0)(H:pS1 l)(U:pS2 l)(V:(vwE (qh l)).2=0)(W:(toE (qj l)).2=0)(Z:vNum (qj l) 3≠hN l 2):poE l=(8,180):=by
 grind [poE]
theorem qak3(h:(qcd l).2=0)(H:pS1 l)(U:pS2 l)(V:(vwE (qh l)).2=0)(W:(toE (qj l)).2=0)(Z:vNum (qj l) 3=hN l 2)(h6:vTot (qh l) 3≠hN l 3):poE l=(12,170):=by
 grind [poE]
theorem qagz(h:(qcd l).2=0)(H:pS1 l)(U:pS2 l)(V:(vwE (qh l)).2=0)(W:(toE (qj l)).2=0)(Z:vNum (qj l) 3=hN l 2)(h6:vTot (qh l) 3=hN l 3)(h7:¬q0n l):poE l=(32+hN l 4,180):=by
 grind [poE]
theorem q0o(h:(qcd l).2=0)(H:pS1 l)(U:pS2 l)(V:(vwE (qh l)).2=0)(W:(toE (qj l)).2=0)(Z:vNum (qj l) 3=hN l 2)(h6:vTot (qh l) 3=hN l 3)(h7:q0n l)(h8:¬q5p l):poE l=(28,170):=by
 grind [poE]
theorem qaj0(h:(qcd l).2=0)(H:pS1 l)(U:pS2 l)(V:(vwE (qh l)).2=0)(W:(toE (qj l)).2=0)(Z:vNum (qj l) 3=hN l 2)(h6:vTot (qh l) 3=hN l 3)(h7:q0n l)(h8:q5p l):poE l=(0,0):=by
 grind [poE]
theorem qb7(h:(poE l).2=0):(qcd l).2=0/\pS1 l/\pS2 l/\(vwE (qh l)).2=0/\(toE (qj l)).2=0/\vNum (qj l) 3=hN l 2/\vTot (qh l) 3=hN l 3/\q0n l/\q5p l:=by
 by_cases H:(qcd l).2=0
 case neg=>grind [qaas]
 by_cases U:pS1 l
 case neg=>grind [qaj1]
 by_cases V:pS2 l
 case neg=>grind [qaj2]
 by_cases W:(vwE (qh l)).2=0
 case neg=>grind [qak6]
 by_cases Z:(toE (qj l)).2=0
 case neg=>grind [qak5]
 grind [qak4,qak3,q0n,qagz,q0o]
end
theorem q6i{A B:DV}{p m:LB}(H:A.data.toList=fixL (crcL p).toNat 4)(U:B.data.toList=m)(V:m.length=4):seq A B=decide ((crcL p).toNat=leN m):=by
 grind [qaf,qsb,crcL,qdj]
structure Ca(w0:DU)(L:Ed)(Φ:DZ->DZ->Ed->Prop)(o:Obj)(mk:DZ->DZ->Obj)(sel:DZ->DZ->DZ)(s t c m p q a:Bool)(vs vc vm vp vq va:DZ)(w:DU):Prop where
 h:(c=false/\m=false/\p=false/\q=false/\a=false/\t=false/\∃b:Nat,(s=true->vs=pp b)/\Mem w0 w ((bif s then[(b,o)]else[])++L))\/
  (c=true/\∃(b:Nat) (x y:DZ) (R:Ed),vc=.tuple #[x,y]/\(m=true->vm=.tuple #[x,y])/\(p=true->vp=x)/\(q=true->vq=y)/\(a=true->va=sel x y)/\(s=true->vs=pp b)/\(s=false->t=false)/\Φ x y R/\
   Mem w0 w ((bif s then[(b,bif t then mk x y else o)]else[])++(L++R)))
section
variable {w0 w w':DU} {L:Ed} {Φ:DZ->DZ->Ed->Prop} {o:Obj} {mk:DZ->DZ->Obj} {sel:DZ->DZ->DZ} {s t c m p q a:Bool} {vs vc vm vp vq va:DZ}
theorem Ca.start(h:Mem w0 w L):Ca w0 L Φ o mk sel false false false false false false false vs vc vm vp vq va w:=⟨.inl ⟨rfl,rfl,rfl,rfl,rfl,rfl,0,Js,h⟩⟩
theorem Ca.mem(h:Ca w0 L Φ o mk sel s t c m p q a vs vc vm vp vq va w):Mem w0 w L:=by
 rcases h.h with⟨_,_,_,_,_,_,b,_,H⟩|⟨_,b,x,y,R,_,_,_,_,_,_,_,_,H⟩
 ·exact H.sub Js
 ·exact H.sub Js
theorem Ca.called(h:Ca w0 L Φ o mk sel s t false m p q a vs vc vm vp vq va w){R:Ed}(hm:Mem w w' R)(H:Φ x y R):Ca w0 L Φ o mk sel s t true m p q a vs (.tuple #[x,y]) vm vp vq va w':=by
 rcases h.h with⟨_,U,V,W,Z,h5,b,h6,h7⟩|⟨h,_⟩
 ·subst U V W Z h5;refine⟨.inr ⟨rfl,b,x,y,R,rfl,Js,Js,Js,Js,h6,λ_=>rfl,H,?_⟩⟩
  grind [qyj]
 ·cases h
theorem Ca.made(h:Ca w0 L Φ o mk sel false t c m p q a vs vc vm vp vq va w):Ca w0 L Φ o mk sel true t c m p q a (.pointer (some ⟨w.heap.size,0,none⟩)) vc vm vp vq va (w.alloc o):=by
 rcases h.h with⟨H,U,V,W,Z,h5,b,h6,h7⟩|⟨H,b,x,y,R,U,V,W,Z,h5,h6,h7,h8,h9⟩
 ·exact⟨.inl ⟨H,U,V,W,Z,h5,w.heap.size,λ_=>rfl,h7.new rfl rfl⟩⟩
 ·refine⟨.inr ⟨H,w.heap.size,x,y,R,U,V,W,Z,h5,λ_=>rfl,Js,h8,?_⟩⟩;rw[h7 rfl];exact h9.new rfl rfl
theorem Ca.moved(h:Ca w0 L Φ o mk sel s t true false p q a vs vc vm vp vq va w):∃x y,vc=.tuple #[x,y]/\Ca w0 L Φ o mk sel s t true true p q a vs (.tuple #[x,y]) (.tuple #[x,y]) vp vq va w:=by
 rcases h.h with⟨h,_⟩|⟨U,b,x,y,R,H,V,W,Z,h5,h6,h7,h8,h9⟩
 ·cases h
 ·exact⟨x,y,H,⟨(by grind)⟩⟩
theorem Ca.fst(h:Ca w0 L Φ o mk sel s t c true false q a vs vc vm vp vq va w):∃x y R,vm=.tuple #[x,y]/\Φ x y R/\Ca w0 L Φ o mk sel s t c true true q a vs vc (.tuple #[x,y]) x vq va w:=by
 rcases h.h with⟨_,h,_⟩|⟨V,b,x,y,R,W,H,Z,h4,h5,h6,h7,U,h9⟩
 ·cases h
 ·exact⟨x,y,R,H rfl,U,⟨(by grind)⟩⟩
theorem Ca.snd(h:Ca w0 L Φ o mk sel s t c true p false a vs vc vm vp vq va w):∃x y R,vm=.tuple #[x,y]/\Φ x y R/\Ca w0 L Φ o mk sel s t c true p true a vs vc (.tuple #[x,y]) vp y va w:=by
 rcases h.h with⟨_,h,_⟩|⟨V,b,x,y,R,W,H,Z,h4,h5,h6,h7,U,h9⟩
 ·cases h
 ·exact⟨x,y,R,H rfl,U,⟨(by grind)⟩⟩
theorem Ca.see(h:Ca w0 L Φ o mk sel s t c m true q a vs vc vm vp vq va w):∃x y R,vp=x/\Φ x y R:=by
 grind [h]
theorem Ca.see2(h:Ca w0 L Φ o mk sel s t c m p true a vs vc vm vp vq va w):∃x y R,vq=y/\Φ x y R:=by
 grind [h]
theorem Ca.keepF(H:∀x y,sel x y=x)(h:Ca w0 L Φ o mk sel s t c m true q false vs vc vm vp vq va w):Ca w0 L Φ o mk sel s t c m true q true vs vc vm vp vq vp w:=by
 rcases h.h with⟨_,_,h,_⟩|⟨U,b,x,y,R,V,W,Z,h4,h5,h6,h7,h8,h9⟩
 ·cases h
 ·exact⟨(by grind)⟩
theorem Ca.keepS(H:∀x y,sel x y=y)(h:Ca w0 L Φ o mk sel s t c m p true false vs vc vm vp vq va w):Ca w0 L Φ o mk sel s t c m p true true vs vc vm vp vq vq w:=by
 rcases h.h with⟨_,_,_,h,_⟩|⟨U,b,x,y,R,V,W,Z,h4,h5,h6,h7,h8,h9⟩
 ·cases h
 ·exact⟨(by grind)⟩
theorem Ca.put'(h:Ca w0 L Φ o mk sel true false c m p true a vs vc vm vp vq va w):∃(b:Nat) (x y:DZ) (R:Ed),vs=pp b/\(p=true->vp=x)/\(true=true->vq=y)/\Φ x y R/\∃M,Mem w0 w ((b,o)::M)/\
  ∀{w' H},Mem w0 w' ((b,mk x y)::M)->H=pp b->Ca w0 L Φ o mk sel true true c m p true a H vc vm vp vq va w':=by
 rcases h.h with⟨_,_,_,h,_⟩|⟨Z,b,x,y,R,h1,h2,U,V,h5,h6,h7,W,h9⟩
 ·cases h
 ·exact⟨b,x,y,R,h6 rfl,U,V,W,_,h9,λhm hu=>⟨.inr ⟨Z,b,x,y,R,h1,h2,U,V,h5,λ_=>hu,Js,W,hm⟩⟩⟩
theorem Ca.put1(h:Ca w0 L Φ o mk sel true false c m true q a vs vc vm vp vq va w):∃(b:Nat) (x y:DZ) (R:Ed),vs=pp b/\vp=x/\Φ x y R/\∃M,Mem w0 w ((b,o)::M)/\
  ∀{w' H},Mem w0 w' ((b,mk x y)::M)->H=pp b->Ca w0 L Φ o mk sel true true c m true q a H vc vm vp vq va w':=by
 rcases h.h with⟨_,_,h,_⟩|⟨W,b,x,y,R,Z,h2,U,h4,h5,h6,h7,V,h9⟩
 ·cases h
 ·exact⟨b,x,y,R,h6 rfl,U rfl,V,_,h9,λhm hu=>⟨.inr ⟨W,b,x,y,R,Z,h2,U,h4,h5,λ_=>hu,Js,V,hm⟩⟩⟩
theorem Ca.done(h:Ca w0 L Φ o mk sel true true true true true true true vs vc vm vp vq va w):∃(b:Nat) (x y:DZ) (R:Ed),vs=pp b/\va=sel x y/\vp=x/\vq=y/\Φ x y R/\Mem w0 w ((b,mk x y)::(L++R)):=by
 grind [h]
end
def mkO(t:DX):DZ->Obj
 | .agg a=>.cells a t
 | _=>.cells #[] t
def DRow(m:LB)(x:DZ)(R:Ed):Prop:=
 ∃ts:List DV,(∀i t,ts[i]?=some t->dGet m i=some t.data.toList)/\ts.length=dN m/\∃B c,x=.slice B (dN m) c/\RowB 9 (ts.map Value.string) R x
theorem DRow.keep{m:LB}{R H:Ed}(h:DRow m x R)(U:∀y∈R,y∈H):DRow m x H:=by
 obtain⟨ts,V,W,B,c,Z,h4⟩:=h;exact⟨ts,V,W,B,c,Z,h4.keep λy hy _=>U y hy⟩
def PhiD(m:LB)(x y:DZ)(R:Ed):Prop:=y=.agg #[ii 0,ii 0]/\DRow m x R
theorem PhiD.slice{m:LB}{R:Ed}(h:PhiD m x y R):∃A n c,x=.slice A n c:=by
 obtain⟨_,ts,_,_,B,c,rfl,_⟩:=h;exact⟨_,_,_,rfl⟩
theorem DvR.phi{m:LB}{v:DZ}(h:DvR m w.heap.size v w')(H:Ext w w'):∃x y R,v=.tuple #[x,y]/\Mem w w' R/\PhiD m x y R:=by
 obtain⟨ts,U,W,B,c,rfl,Z⟩:=h;obtain⟨R,hm,hB⟩:=V.Mem.row (Mem.nil w) H Z znr;exact⟨_,_,R,rfl,hm,rfl,ts,U,W,B,c,rfl,hB⟩
def PhiR(kind:Int)(s:DV)(x y:DZ)(R:Ed):Prop:=
 R=[]/\∃t,ReadsAs kind s.data.toList t/\TermOk t/\x=qv t/\y=ii 0
theorem RdR.phi{s:DV}{v:DZ}(h:RdR kind s v):∃x y,v=.tuple #[x,y]/\PhiR kind s x y []:=by
 obtain⟨t,H,U,rfl⟩:=h;exact⟨_,_,rfl,rfl,t,H,U,rfl,rfl⟩
structure VTm(l:LB)(k j:Nat)(ts:List TM):Prop where
 len:ts.length=vTot l k+j
 ok:∀t∈ts,TermOk t
 at_:∀k' j',(k'<k/\j'<dN (sDict l k'))\/(k'=k/\j'<j)->∃s t,dGet (sDict l k') j'=some s/\s.length<=262144/\ReadsAs ((k'+1:Nat):Int) s t/\ts[vTot l k'+j']?=some t
theorem VTm.one(h:VTm l k j ts){t:TM}(Z:TermOk t)(hd:dGet (sDict l k) j=some s)(hs:s.length<=262144)(hr:ReadsAs ((k+1:Nat):Int) s t):VTm l k (j+1) (ts++[t]):=by
 refine⟨by rw[zla,h.len];rfl,λu H=>?_,λU V hk=>?_⟩
 ·rcases Bc.1 H with H|H
  ·exact h.ok u H
  ·rw[Ak.1 H];exact Z
 ·by_cases e:U=k/\V=j
  ·obtain⟨rfl,rfl⟩:=e;exact⟨s,t,hd,hs,hr,by rw[Be (by rw[h.len];omega),h.len,BU];rfl⟩
  ·obtain⟨s',t',h1,h2,h3,W⟩:=h.at_ U V Oo;refine⟨s',t',h1,h2,h3,?_⟩;rw[Ba (Af.1 W).1];exact W
theorem VTm.next(h:VTm l k (dN (sDict l k)) ts):VTm l (k+1) 0 ts:=
 ⟨h.len,h.ok,λU V W=>h.at_ U V (by
  rcases W with⟨Z,H⟩|⟨_,H⟩
  ·by_cases e:U=k
   ·subst e;exact .inr ⟨rfl,H⟩
   ·exact .inl ⟨by omega,H⟩
  ·omega)⟩
theorem qnx:Eg.underlying 28=some (.slice 45):=Tryz.underlying28
theorem trmI:Eg.info? 45=some ((Eg.info? 45).get Jk):=(Bt _).symm
theorem trmZ:((Eg.info? 45).get Jk).zero=some ((((Eg.info? 45).get Jk).zero).get Jk):=(Bt _).symm
def VoW(l:LB)(base:Nat)(v:DZ)(w:DU):Prop:=
 ∃ts,VTm l 3 0 ts/\∃B c,v=.tuple #[.slice B (vTot l 3) c,fltV 0 0]/\w.ownsRow base 45 4 (.slice B (vTot l 3) c) (vTot l 3) (ts.map encT).flatten
theorem q1s(l:LB)(A:oA)(c:Nat)(w:DU)(hS:SlAt encB 1 w A l)(hc:l.length<=c)(hl:l.length<=70368744177664)(hW:(vwE l).2=0):
  Gv Eg 97 [.slice A l.length c] w λv w'=>VoW l w.heap.size v w'/\Ext w w':=by
 obtain⟨hE,hD,a9⟩:=qd8 hW;refine ze Tryz.func97 Tryz.ntmps97 ?_;refine znm (Mem.nil w) λr3 w1 Z=>zw ?_;refine zcv (q1f l A c w1 (hS.ext Z.ext) hc hl hE) ?_;rintro r w4 ⟨⟨P,hP,rfl⟩,ba⟩;have Z:=Z.call ba;(conv=>whnf);refine znm Z λsb w5 Z=>zw ?_;refine znm Z λfb w6 Z=>zw ?_;refine StoreA.all Z (i:=1) rfl (by simp[qaq]) (qlz 4 P) λw7 Z=>zw ?_;refine zS Z 0 λw8 Z=>zw ?_;refine zr Z 0 ?_;refine zv ?_;refine znm Z ?_;intro dv w9 Z;have Z:Mem w w9 ((dv,.cells (fnA 3 (λ_=>.slice none 0 0)) 291)::(fb,.cells #[ii 0,ii 0] 55)::(sb,.cells (fnA 4 (inF P)) 94)::(r3,.cells #[ii 0,ii 0] 55)::[]):=Z;obtain⟨bb,ay⟩:=qadm hE;(conv=>whnf);refine qk (λk:Nat=>[(0,.slice A l.length c),(3,pp r3),(4,pp sb),(6,pp dv),(7,ii k)])
  (λk w'=>k<=3/\∃G R,Mem w w' ((dv,.cells (fnA 3 (G)) 291)::(fb,.cells #[ii 0,ii 0] 55)::(sb,.cells (fnA 4 (inF P)) 94)::(r3,.cells #[ii 0,ii 0] 55)::R)/\∀m,m<k->DRow (sDict l m) (G m) R) (λk=>3-k) 0
  fq ⟨by omega,_,[],Z,λm h=>by omega⟩ ?_
 clear Z;rintro k be bt ⟨k1,G,R,Z,hG⟩;(conv=>whnf);refine zC (λ_=>zw ?_) (λ_=>zw ?_)
 ·have az:=hP k Oo;have al:=hP (k+1) Oo;have bf:qr l (k+1)=qr l k+vNum l k:=rfl;have am:=qmx ay (k:=k) Oo;have bg:=qto ay (k:=k) Oo;have bh:=bb k Oo;obtain⟨y,ey⟩:∃y,y=qr l k:=⟨_,rfl⟩
  obtain⟨z,ez⟩:∃z,z=vNum l k:=⟨_,rfl⟩
  obtain⟨B,eB⟩:∃B,B=(if c=y then A else A.map (·.add (y*1))):=⟨_,rfl⟩
  have hB:SlAt encB 1 w B (sDict l k):=by
   rw[eB,sDict,<-ey];have:=hS.cut (lo:=y) (hi:=y+z) (m:=c) Oo Oo Oo rfl
   rwa[show y+z-y=vNum l k by omega]at this
  rw[bf,<-ey,<-ez]at al;rw[<-ey]at az am;rw[<-ez]at am bh;have a0:=λw' (bi:SlAt encB 1 w' B (sDict l k))=>(q85 (sDict l k) B (c-y) w' bi Oo Oo (hD k Oo)).mono λr bu ⟨h1,h2⟩=>h1.phi h2
  rw[bg]at a0;refine DrawV.gen (λS H w'=>Ca w ((dv,.cells (fnA 3 (G)) 291)::(fb,.cells #[ii 0,ii 0] 55)::(sb,.cells (fnA 4 (inF P)) 94)::(r3,.cells #[ii 0,ii 0] 55)::R) (PhiD (sDict l k)) (.cells #[ii 0,ii 0] 201) (λ_ y=>mkO 201 y) (λx _=>x) (S 13) (S 15) (S 9) (S 10) (S 11) (S 12) (S 14) (H 13) (H 9) (H 10) (H 11) (H 12) (H 14) w') rfl Jk (λH=>Ca.start Z.drew) ?_;clear Z;(conv=>whnf);refine zg ?_;refine zg ?_;refine StepG.of (.pointer (some ⟨sb,0+(k)*tsz Eg 3,none⟩)) (λS H wd hk hp U=>zw ?_) (zw ?_)
  ·refine IdxV.at_ (k) Oo Oo (zw ?_);exact⟨rfl,U⟩
  refine StepG.of (ii (y:Nat)) (λS H wd hk hp U=>zw ?_) (zw ?_)
  ·refine LoadV.fim (x:=((y:Nat):Int)) U.mem (b:=sb) (F:=P) (n:=4) (t:=94) Js (k) (by rw[show tsz Eg 3=1 from by kernel_rfl];omega) Oo az (zw ?_);exact⟨rfl,U⟩
  refine zg ?_;refine zg ?_;refine StepG.of (.pointer (some ⟨sb,0+(k+1)*tsz Eg 3,none⟩)) (λS H wd hk hp U=>zw ?_) (zw ?_)
  ·refine IdxV.at_ (k+1) Oo Oo (zw ?_);exact⟨rfl,U⟩
  refine StepG.of (ii (y+z:Nat)) (λS H wd hk hp U=>zw ?_) (zw ?_)
  ·refine LoadV.fim (x:=((y+z:Nat):Int)) U.mem (b:=sb) (F:=P) (n:=4) (t:=94) Js (k+1) (by rw[show tsz Eg 3=1 from by kernel_rfl];omega) Oo al (zw ?_);exact⟨rfl,U⟩
  refine StepG.of (.slice B (vNum l k) (c-y)) (λS H wd hk hp U=>zw ?_) (zw ?_)
  ·refine SliceV.to y (y+z) c rfl rfl rfl Oo Oo znr (λh=>by cases h) ?_;rw[show tsz Eg 5=1 from by kernel_rfl,<-eB,show y+z-y=vNum l k by omega];(conv=>whnf);exact⟨rfl,U⟩
  refine StepG.any (λS H wd hk hp U=>?_) (zw ?_)
  ·dsimp only at U;rw[hk]at U;(conv=>whnf);refine zcv (a0 wd (hB.ext U.mem.ext)) ?_;rintro v w9 ⟨x,u,R',rfl,bj,W⟩;exact⟨trivial,U.called bj W⟩
  refine StepG.any (λS H wd hk hp U=>?_) (zw ?_)
  ·dsimp only at U;have h9:S 9=true:=hp 9 Od;rw[hk,h9]at U;obtain⟨x,u,hv,hK⟩:=U.moved;rw[qp hv];(conv=>whnf);exact⟨trivial,by show Ca _ _ _ _ _ _ (S 13) (S 15) (S 9) true (S 11) (S 12) (S 14) _ _ _ _ _ _ _;rw[h9];exact hK⟩
  refine StepG.any (λS H wd hk hp U=>?_) (zw ?_)
  ·dsimp only at U;have aa:S 10=true:=hp 10 Od;rw[hk,aa]at U;obtain⟨x,u,R',hv,W,hK⟩:=U.fst;obtain⟨A1,n1,c1,rfl⟩:=W.slice;rw[qp hv];(conv=>whnf);exact⟨trivial,by show Ca _ _ _ _ _ _ (S 13) (S 15) (S 9) (S 10) true (S 12) (S 14) _ _ _ _ _ _ _;rw[aa];exact hK⟩
  refine StepG.any (λS H wd hk hp U=>?_) (zw ?_)
  ·dsimp only at U;have aa:S 10=true:=hp 10 Od;rw[hk,aa]at U;obtain⟨x,u,R',hv,W,hK⟩:=U.snd;obtain rfl:=W.1;rw[qp hv];(conv=>whnf);exact⟨trivial,by show Ca _ _ _ _ _ _ (S 13) (S 15) (S 9) (S 10) (S 11) true (S 14) _ _ _ _ _ _ _;rw[aa];exact hK⟩
  refine StepG.any (λS H wd hk hp U=>?_) (zw ?_)
  ·dsimp only at U;rw[hk]at U;(conv=>whnf);refine⟨λx wx hb hw=>?_⟩;subst hb hw;(conv=>whnf);exact⟨trivial,U.made⟩
  refine StepG.any (λS H wd hk hp U=>?_) (zw ?_)
  ·dsimp only at U;have af:S 11=true:=hp 11 Od;rw[hk,af]at U;obtain⟨x,u,R',hx,W⟩:=U.see;obtain⟨A1,n1,c1,rfl⟩:=W.slice;rw[hx]at U;rw[qp hx];(conv=>whnf);exact⟨trivial,by show Ca _ _ _ _ _ _ (S 13) (S 15) (S 9) (S 10) (S 11) (S 12) true _ _ _ _ _ _ _;rw[af];exact U.keepF (λ_ _=>rfl)⟩
  refine StepG.of undef (λS H wd hk hp U=>?_) (zw ?_)
  ·dsimp only at U;have ag:S 12=true:=hp 12 Od;have ah:S 13=true:=hp 13 Od;rw[hk,ag,ah]at U;obtain⟨x,u,R',hu,W⟩:=U.see2;obtain rfl:=W.1;rw[hu]at U;obtain⟨b,x2,u2,R2,hv,h0,h1,a1,M,ao,hK⟩:=U.put';obtain rfl:=h1 rfl;rw[qp hv,qp hu];(conv=>whnf);refine zS ao 0 λwx aq=>zw ?_;exact⟨rfl,by show Ca _ _ _ _ _ _ (S 13) true (S 9) (S 10) (S 11) (S 12) (S 14) _ _ _ _ _ _ _;rw[ag,ah];exact hK aq rfl⟩
  intro H a2 U;obtain⟨t9,x,u,R',ai,ad,ar,au,W,Z⟩:=U.done;replace ad:H 14=x:=ad;obtain⟨A1,n1,c1,ex⟩:=W.slice;rw[ex]at ad;rw[qp ai,qp ad];clear U ai ad ar au;obtain⟨rfl,bk⟩:=W;have Z:Mem w a2 ((t9,.cells #[ii 0,ii 0] 201)::(dv,.cells (fnA 3 (G)) 291)::(fb,.cells #[ii 0,ii 0] 55)::(sb,.cells (fnA 4 (inF P)) 94)::(r3,.cells #[ii 0,ii 0] 55)::(R++R')):=by rw[<-Bi,<-Bi,<-Bi,<-Bi];exact Z
  (conv=>whnf);refine zr Z 0 ?_;refine zv ?_;refine StoreV.fn (v:=.slice A1 n1 c1) Z (i:=1) rfl k (by rw[show tsz Eg 159=1 from by kernel_rfl];omega) Oo rfl ?_;intro a3 Z;have Z:=Z.sub (AS ..);refine zu ?_;refine⟨k+1,fq,⟨by omega,_,_,Z,λm h=>?_⟩,by omega⟩
  by_cases e:m=k
  ·subst e;rw[qb3,<-ex];exact bk.keep λy hy=>Ac _ hy
  ·rw[qac _ _ _ _ e];exact(hG m Oo).keep λy hy=>Aj _ hy
 obtain rfl:k=3:=by omega
 refine zcv (ql4 be) ?_;rintro r bv ⟨rfl,a4⟩;have Z:=Z.call a4;(conv=>whnf);refine znm Z λkb a2 Z=>zw ?_;refine zS Z 0 ?_;intro a3 Z;have Z:Mem w a3 ((kb,.cells (fnA 3 (inF λi:Nat=>((i+1:Nat):Int))) 113)::(dv,.cells (fnA 3 (G)) 291)::(fb,.cells #[ii 0,ii 0] 55)::(sb,.cells (fnA 4 (inF P)) 94)::(r3,.cells #[ii 0,ii 0] 55)::R):=Z;(conv=>whnf);refine qk (λx:Nat×List TM×oA×Nat=>[(3,pp r3),(4,pp sb),(6,pp dv),(10,.slice x.2.2.1 x.2.1.length x.2.2.2),(11,pp kb),(12,ii x.1)])
  (λx w'=>x.1<=3/\VTm l x.1 0 x.2.1/\Rw w w' (.slice x.2.2.1 x.2.1.length x.2.2.2) 45 4 x.2.1.length (x.2.1.map encT).flatten ((kb,.cells (fnA 3 (inF λi:Nat=>((i+1:Nat):Int))) 113)::(dv,.cells (fnA 3 (G)) 291)::(fb,.cells #[ii 0,ii 0] 55)::(sb,.cells (fnA 4 (inF P)) 94)::(r3,.cells #[ii 0,ii 0] 55)::R)) (λx=>3-x.1) (0,[],none,0)
  fq ⟨by simp,⟨rfl,λt h=>(by cases h),λk j h=>Oo⟩,Rw.nil Z⟩ ?_
 clear Z;rintro⟨k,ts,B,cc⟩ bl bw ⟨k2,hV,hR⟩;dsimp only at k2 hV hR|-;(conv=>whnf);refine zC (λ_=>zw ?_) (λ_=>zw ?_)
 ·refine qk (λx:Nat×List TM×oA×Nat=>[(3,pp r3),(4,pp sb),(6,pp dv),(10,.slice x.2.2.1 x.2.1.length x.2.2.2),(11,pp kb),(12,ii k),(13,ii x.1)])
   (λx w'=>x.1<=dN (sDict l k)/\VTm l k x.1 x.2.1/\Rw w w' (.slice x.2.2.1 x.2.1.length x.2.2.2) 45 4 x.2.1.length (x.2.1.map encT).flatten ((kb,.cells (fnA 3 (inF λi:Nat=>((i+1:Nat):Int))) 113)::(dv,.cells (fnA 3 (G)) 291)::(fb,.cells #[ii 0,ii 0] 55)::(sb,.cells (fnA 4 (inF P)) 94)::(r3,.cells #[ii 0,ii 0] 55)::R)) (λx=>dN (sDict l k)-x.1) (0,ts,B,cc)
   fq ⟨by simp,hV,hR⟩ ?_
  clear hV hR;rintro⟨j,ts,B,cc⟩ ak bz ⟨j1,hV,hR⟩;dsimp only at j1 hV hR|-;obtain⟨es,av,b0,EB,ec,eG,a5⟩:=hG k Oo;obtain⟨b1,b2,_⟩:=q2u (qbs (hD k Oo)).1;refine zu ?_;refine LoadV.fn (v:=.slice EB (dN (sDict l k)) ec) hR.mem (i:=1) rfl k (by rw[show tsz Eg 159=1 from by kernel_rfl];omega) Oo eG (zw ?_);refine zC (λ_=>zu ?_) (λ_=>zu ?_)
  ·have ae:j<es.length:=by omega
   have a6:es[j].size<=262144:=qku (av j _ (zge ae));have hT:SlAt V.zeS 1 ak EB es:=V.RowB.slf (f:=Value.string) (λ_=>rfl) (by rw[eG]at a5;exact a5) hR.mem (λx hx=>by simp[hx]);obtain⟨gb,go,bm,bn⟩:=hT.at_ (by intro e;rw[e]at ae;simp at ae);have aw:ak.cell? ⟨gb,go+j*1,none⟩=some (.string es[j]):=by
    have:=bn j _ (zge ae) 0 _ rfl
    rwa[BB]at this
   subst bm;refine DrawV.gen (λS H w'=>Ca ak.drew [] (PhiR ((k+1:Nat):Int) es[j]) (.cells #[ii 0,.string ⟨#[]⟩,.string ⟨#[]⟩,.string ⟨#[]⟩] 45) (λx _=>mkO 45 x) (λ_ y=>y) (S 13) (S 14) (S 9) (S 10) (S 11) (S 12) (S 15) (H 13) (H 9) (H 10) (H 11) (H 12) (H 15) w') rfl Jk (λH=>Ca.start (Mem.nil _)) (zw ?_);refine zg ?_;refine StepG.of (.pointer (some ⟨kb,0+k*tsz Eg 3,none⟩)) (λS H wd hk hp U=>zw ?_) (zw ?_)
   ·refine IdxV.at_ k Oo Oo (zw ?_);exact⟨rfl,U⟩
   refine StepG.of (ii (k+1:Nat)) (λS H wd hk hp U=>zw ?_) (zw ?_)
   ·refine LoadV.fim (x:=((k+1:Nat):Int)) (hR.mem.drew.call U.mem.ext) (b:=kb) (F:=λi:Nat=>((i+1:Nat):Int)) (n:=3) (t:=113) Js k (by rw[show tsz Eg 3=1 from by kernel_rfl];omega) Oo rfl (zw ?_);exact⟨rfl,U⟩
   refine zg ?_;refine StepG.of (.pointer (some ⟨dv,0+k*tsz Eg 159,none⟩)) (λS H wd hk hp U=>zw ?_) (zw ?_)
   ·refine IdxV.at_ k Oo Oo (zw ?_);exact⟨rfl,U⟩
   refine StepG.of (.slice (some ⟨gb,go,none⟩) (dN (sDict l k)) ec) (λS H wd hk hp U=>zw ?_) (zw ?_)
   ·refine LoadV.fn (v:=.slice (some ⟨gb,go,none⟩) (dN (sDict l k)) ec) (hR.mem.drew.call U.mem.ext) (i:=1) rfl k (by rw[show tsz Eg 159=1 from by kernel_rfl];omega) Oo eG (zw ?_);exact⟨rfl,U⟩
   refine zg ?_;refine StepG.of (.pointer (some ⟨gb,go+j*tsz Eg 9,none⟩)) (λS H wd hk hp U=>zw ?_) (zw ?_)
   ·refine⟨⟨gb,go,j,rfl,by omega,by omega,?_⟩⟩;(conv=>whnf);exact⟨rfl,U⟩
   refine StepG.of (.string es[j]) (λS H wd hk hp U=>zw ?_) (zw ?_)
   ·refine LoadV.of (Ext.cell (Ext.trans xr.drew U.mem.ext) aw) (zw ?_);exact⟨rfl,U⟩
   refine StepG.any (λS H wd hk hp U=>?_) (zw ?_)
   ·dsimp only at U;rw[hk]at U;(conv=>whnf);obtain⟨t',ax⟩:∃t,ReadsAs ((k+1:Nat):Int) es[j].data.toList t:=AD λhn=>q7s (a9 k Oo) (show j<dN (sDict l k)by omega) ⟨_,av j _ (zge ae),λt ht=>hn ⟨t,ht⟩⟩;refine zcv (q52 ((k+1:Nat):Int) Oo es[j] a6 wd t' ax) ?_;rintro v w9 ⟨bo,h9⟩;obtain⟨x,u,rfl,W⟩:=bo.phi;exact⟨trivial,U.called ((Mem.nil wd).call h9) W⟩
   refine StepG.any (λS H wd hk hp U=>?_) (zw ?_)
   ·dsimp only at U;have h9:S 9=true:=hp 9 Od;rw[hk,h9]at U;obtain⟨x,u,hv,hK⟩:=U.moved;rw[qp hv];(conv=>whnf);exact⟨trivial,by show Ca _ _ _ _ _ _ (S 13) (S 14) (S 9) true (S 11) (S 12) (S 15) _ _ _ _ _ _ _;rw[h9];exact hK⟩
   refine StepG.any (λS H wd hk hp U=>?_) (zw ?_)
   ·dsimp only at U;have aa:S 10=true:=hp 10 Od;rw[hk,aa]at U;obtain⟨x,u,R',hv,W,hK⟩:=U.fst;obtain⟨_,tm,_,_,rfl,_⟩:=W;rw[qp hv];(conv=>whnf);exact⟨trivial,by show Ca _ _ _ _ _ _ (S 13) (S 14) (S 9) (S 10) true (S 12) (S 15) _ _ _ _ _ _ _;rw[aa];exact hK⟩
   refine StepG.any (λS H wd hk hp U=>?_) (zw ?_)
   ·dsimp only at U;have aa:S 10=true:=hp 10 Od;rw[hk,aa]at U;obtain⟨x,u,R',hv,W,hK⟩:=U.snd;obtain⟨_,tm,_,_,_,rfl⟩:=W;rw[qp hv];(conv=>whnf);exact⟨trivial,by show Ca _ _ _ _ _ _ (S 13) (S 14) (S 9) (S 10) (S 11) true (S 15) _ _ _ _ _ _ _;rw[aa];exact hK⟩
   refine StepG.any (λS H wd hk hp U=>?_) (zw ?_)
   ·dsimp only at U;rw[hk]at U;(conv=>whnf);refine⟨λx wx hb hw=>?_⟩;subst hb hw;(conv=>whnf);exact⟨trivial,U.made⟩
   refine StepG.of undef (λS H wd hk hp U=>?_) (zw ?_)
   ·dsimp only at U;have af:S 11=true:=hp 11 Od;have ah:S 13=true:=hp 13 Od;rw[hk,af,ah]at U;obtain⟨x,u,R',hx,W⟩:=U.see;obtain⟨_,tm,_,_,rfl,_⟩:=W;rw[hx]at U;obtain⟨b,x2,u2,R2,hv,h0,a1,M,ao,hK⟩:=U.put1;subst h0;rw[qp hv,qp hx];(conv=>whnf);refine zS ao 0 λwx aq=>zw ?_;exact⟨rfl,by show Ca _ _ _ _ _ _ (S 13) true (S 9) (S 10) (S 11) (S 12) (S 15) _ _ _ _ _ _ _;rw[af,ah];exact hK aq rfl⟩
   refine StepG.any (λS H wd hk hp U=>?_) (zw ?_)
   ·dsimp only at U;have ag:S 12=true:=hp 12 Od;rw[hk,ag]at U;obtain⟨x,u,R',hx,W⟩:=U.see2;obtain⟨_,tm,_,_,_,rfl⟩:=W;rw[hx]at U;rw[qp hx];(conv=>whnf);exact⟨trivial,by show Ca _ _ _ _ _ _ (S 13) (S 14) (S 9) (S 10) (S 11) (S 12) true _ _ _ _ _ _ _;rw[ag];exact U.keepS (λ_ _=>rfl)⟩
   intro H bp U;obtain⟨tb,x,u,R',ai,ad,ar,au,W,Z⟩:=U.done;replace ad:H 15=u:=ad;obtain⟨bq,t,ax,a7,rfl,rfl⟩:=W;rw[qp ai,qp ad];clear U ai ad ar au;subst bq;have hR:=Rw.join (V.Rw.drew hR) Z;have hR:Rw w bp (.slice B ts.length cc) 45 4 ts.length (ts.map encT).flatten ((tb,.cells #[ii t.kind,.string t.text,.string t.type,.string t.lang] 45)::(kb,.cells (fnA 3 (inF λi:Nat=>((i+1:Nat):Int))) 113)::(dv,.cells (fnA 3 (G)) 291)::(fb,.cells #[ii 0,ii 0] 55)::(sb,.cells (fnA 4 (inF P)) 94)::(r3,.cells #[ii 0,ii 0] 55)::R):=hR;have Z:=hR.mem;have an:=hV.len;have b3:vTot l k<=8388608:=by
    have a8:∀m,m<3->dN (sDict l m)<=4194304:=λm Z=>(q2u (qbs (hD m Z)).1).1
    have h0:=a8 0 Oo;have h1:=a8 1 Oo
    rcases(show k=0\/k=1\/k=2 by omega)with rfl|rfl|rfl<;>simp only[vTot]<;>omega
   refine zu ?_;refine zl Z 0 ?_;refine NewV.rw hR λnb b4 hR=>zw ?_;refine AppV.rw (m:=1) (news:=encT t) qnx trmI trmZ Jk Jk Od hR rfl (λ_=>⟨nb,0,rfl,λk v hv=>?_⟩) (q9 t) (by rw[show((Eg.info? 45).get Jk).bytes=56 from by kernel_rfl];omega) Oo ?_
   ·rw[qa (hR.mem.get mh),As];rw[An];exact hv
   clear hR;intro B2 c2 br hR;have hR:Rw w br (.slice B2 (ts++[t]).length c2) 45 4 (ts++[t]).length ((ts++[t]).map encT).flatten ((kb,.cells (fnA 3 (inF λi:Nat=>((i+1:Nat):Int))) 113)::(dv,.cells (fnA 3 (G)) 291)::(fb,.cells #[ii 0,ii 0] 55)::(sb,.cells (fnA 4 (inF P)) 94)::(r3,.cells #[ii 0,ii 0] 55)::R):=by
    have e:((ts++[t]).map encT).flatten=(ts.map encT).flatten++encT t:=by simp
    rw[e,zla];exact hR.tail.tail
   refine zu ?_;refine⟨(j+1,ts++[t],B2,c2),⟨rfl,rfl,rfl,?_,rfl,rfl,rfl,trivial⟩,⟨by simp only;omega,hV.one a7 (av j _ (zge ae)) a6 ax,hR⟩,by simp only;omega⟩;show Value.slice B2 (ts.length+1) c2=Value.slice B2 (ts++[t]).length c2;rw[zla];rfl
  ·obtain rfl:j=dN (sDict l k):=by omega
   exact⟨(k+1,ts,B,cc),fq,⟨by simp only;omega,hV.next,hR⟩,by simp only;omega⟩
 ·obtain rfl:k=3:=by omega
  have an:ts.length=vTot l 3:=hV.len;refine StoreA.same (hR.mem.get (L:=_) Js:bl.heap[r3]?=some (.cells #[ii 0,ii 0] 55)) rfl Od λak aj=>zw ?_;refine qi (R:=λv w'=>VoW l w.heap.size v w'/\Ext w w') (zw ?_);refine LoadA.mem (hR.mem.call aj) (i:=4) rfl rfl (zw ?_);rw[an]at hR|-;exact⟨⟨ts,hV,B,cc,rfl,qcf hR.own aj⟩,hR.mem.ext.trans aj⟩
def txtC(a b:DV):Int:=if slt a b=true then -1 else if seq a b=true then 0 else 1
def cmpT(a b:TM):Int:=
 if a.kind≠b.kind then(if a.kind<b.kind then -1 else 1)else if txtC a.text b.text≠0 then txtC a.text b.text else if txtC a.type b.type≠0 then txtC a.type b.type else txtC a.lang b.lang
theorem qj1(a b:DV)(w:DU):Gv Eg 152 [.string a,.string b] w λr w'=>r=ii (txtC a b)/\w'=w:=by
 cases H:slt a b
 ·cases U:seq a b
  ·refine ze Tryz.func152 Tryz.ntmps152 ?_;rw[H];refine zv ?_;rw[H,U];refine zv ?_;exact⟨by simp[txtC,H,U],rfl⟩
  ·refine ze Tryz.func152 Tryz.ntmps152 ?_;rw[H];refine zv ?_;rw[H,U];refine zv ?_;exact⟨by simp[txtC,H,U],rfl⟩
 ·refine ze Tryz.func152 Tryz.ntmps152 ?_;rw[H];refine zv ?_;exact⟨by simp[txtC,H],rfl⟩
theorem qbg(a b:TM)(w:DU):Gv Eg 83 [qv a,qv b] w λr w'=>r=ii (cmpT a b)/\Ext w w':=by
 refine ze Tryz.func83 Tryz.ntmps83 ?_;refine znm (Mem.nil w) λb1 w1 H=>zw ?_;refine znm H λb2 w2 H=>zw ?_
 by_cases U:a.kind=b.kind
 ·refine LoadV.mem (i:=1) Oa rfl rfl (zw ?_);refine LoadV.mem (i:=0) Oa rfl rfl (zw ?_);refine zt ?_;refine LoadV.mem (i:=1) Oa rfl rfl (zw ?_);refine LoadV.mem (i:=0) Oa rfl rfl (zw ?_);refine zcv (qj1 a.text b.text w2) ?_;rintro v w3 ⟨rfl,V⟩;subst V;conv=>whnf
  by_cases W:txtC a.text b.text=0
  ·refine zt ?_;refine LoadV.mem (i:=1) Oa rfl rfl (zw ?_);refine LoadV.mem (i:=0) Oa rfl rfl (zw ?_);refine zcv (qj1 a.type b.type w3) ?_;rintro v w4 ⟨rfl,V⟩;subst V;conv=>whnf
   by_cases Z:txtC a.type b.type=0
   ·refine zt ?_;refine LoadV.mem (i:=1) Oa rfl rfl (zw ?_);refine LoadV.mem (i:=0) Oa rfl rfl (zw ?_);refine zcv (qj1 a.lang b.lang w4) ?_;rintro v w5 ⟨rfl,V⟩;subst V;(conv=>whnf);exact⟨by rw[cmpT,Aa (by simpa using U),Aa (by simpa using W),Aa (by simpa using Z)],H.ext⟩
   ·refine zv ?_;exact⟨by rw[cmpT,Aa (by simpa using U),Aa (by simpa using W),Ad Z],H.ext⟩
  ·refine zv ?_;exact⟨by rw[cmpT,Aa (by simpa using U),Ad W],H.ext⟩
 ·refine LoadV.mem (i:=1) Oa rfl rfl (zw ?_);refine LoadV.mem (i:=0) Oa rfl rfl (zw ?_);refine zt ?_;refine LoadV.mem (i:=1) Oa rfl rfl (zw ?_);refine LoadV.mem (i:=0) Oa rfl rfl (zw ?_);refine zC (λ_=>zw ?_) (λ_=>zw ?_)
  ·exact⟨by rw[cmpT,Ad U,Ad Oa],H.ext⟩
  ·exact⟨by rw[cmpT,Ad U,Aa Oa],H.ext⟩
theorem qaaw(q:Q4):qbo q=if qE 0 q.s≠0 then qE 0 q.s else if qE 1 q.p≠0 then qE 1 q.p else if qE 2 q.o≠0 then qE 2 q.o else qE 3 q.g:=by
 have V:((List.range 4).map λk=>qE k (q.at k)).length=4:=by simp
 have H:∀j (hj:j<((List.range 4).map λk=>qE k (q.at k)).length),((List.range 4).map λk=>qE k (q.at k))[j]=qE j (q.at j):=λj hj=>by simp
 have U:∀k,k<4->(∀j,j<k->qE j (q.at j)=0)->qE k (q.at k)≠0->qbo q=qE k (q.at k):=λk hk h aa=>by
  rw[qbo,qly (k:=k) (by rw[V];exact hk) (λj hj ad=>by rw[H];exact h j ad) (by rw[H];exact aa),H]
 by_cases W:qE 0 q.s≠0
 ·rw[Ad W];exact U 0 Oo (λj h=>by omega) W
 rw[Aa W]
 by_cases Z:qE 1 q.p≠0
 ·rw[Ad Z];exact U 1 Oo (λj h=>by(obtain rfl:j=0:=by omega);exact BT.1 W) Z
 rw[Aa Z]
 by_cases h2:qE 2 q.o≠0
 ·rw[Ad h2];exact U 2 Oo (λj h=>by
   rcases(show j=0\/j=1 by omega)with rfl|rfl
   ·exact BT.1 W
   ·exact BT.1 Z) h2
 rw[Aa h2]
 by_cases h3:qE 3 q.g≠0
 ·exact U 3 Oo (λj h=>by
   rcases(show j=0\/j=1\/j=2 by omega)with rfl|rfl|rfl
   ·exact BT.1 W
   ·exact BT.1 Z
   ·exact BT.1 h2) h3
 ·rw[BT.1 h3,qbo,qe1 λj hj=>by
   rw[H];rw[V]at hj
   rcases(show j=0\/j=1\/j=2\/j=3 by omega)with rfl|rfl|rfl|rfl
   ·exact BT.1 W
   ·exact BT.1 Z
   ·exact BT.1 h2
   ·exact BT.1 h3]
theorem qaj4{t:TM}(H:k=0\/k=1)(h:canB k t=true):qE k t=qap t:=by rw[qE,Aa (by rw[h];simp),Aa Oo]
theorem qE_2(t:TM):qE 2 t=qap t:=by
 rw[qE]
 by_cases h:canB 2 t=false
 ·rw[Ad h];rw[canB,Aa Oo,Aa Oo,Ad Oo,Bool.and_eq_false_iff,decide_eq_false_iff_not,decide_eq_false_iff_not]at h;rw[qap,Aa Oo,Aa Oo]
 ·rw[Aa h,Aa Oo]
theorem qfi(q:Q4)(hq:qa5 q)(w:DU):Gv Eg 146 [qy q] w λv w'=>v=ii (qbo q)/\Ext w w':=by
 refine ze Tryz.func146 Tryz.ntmps146 ?_;refine znm (Mem.nil w) ?_;intro b w1 H;have U:CellsAt w1 b 0 (qf q):=CellsAt.mem H mh;have e0:canB 0 q.s=(decide (q.s.kind=1)||decide (q.s.kind=2)):=by rw[canB,Ad Oo]
 have e1:canB 1 q.p=decide (q.p.kind=1):=by rw[canB,Aa Oo,Ad Oo]
 have e3:canB 3 q.g=(qwu q.g||decide (q.g.kind=1)||decide (q.g.kind=2)):=by rw[canB,Aa Oo,Aa Oo,Aa Oo]
 have hz:∀t:TM,qaj t ⟨0,⟨#[]⟩,⟨#[]⟩,⟨#[]⟩⟩=qwu t:=λ_=>rfl
 rw[qaaw];conv=>whnf
 (repeat'(first|refine zp ?_|refine zC (λ_=>zw ?_) (λ_=>zw ?_)|refine LoadV.mem (i:=0) Oa rfl rfl (zw ?_)))
 ·exact⟨by rw[Ad (by rw[qE,Ad (by rw[e0];simp;omega)];decide),qE,Ad (by rw[e0];simp;omega)];rfl,H.ext⟩
 all_goals
  have c0:canB 0 q.s=true:=by rw[e0];simp;omega
  rw[qaj4 (.inl rfl) c0];refine LoadA.cells (qm U 0 Oo) rfl (zw ?_);refine zcv (qbp q.s (hq 0) w1) ?_;rintro v w2 ⟨rfl,V⟩;have H:=H.call V;have U:=U.ext V;conv=>whnf
  by_cases hs:qap q.s=0
  ·rw[Aa Oo]
   (repeat'(first|refine zp ?_|refine zC (λ_=>zw ?_) (λ_=>zw ?_)|refine LoadV.mem (i:=0) Oa rfl rfl (zw ?_)))
   ·exact⟨by rw[Ad (by rw[qE,Ad (by rw[e1];simp;omega)];decide),qE,Ad (by rw[e1];simp;omega)];rfl,H.ext⟩
   have c1:canB 1 q.p=true:=by rw[e1];simp;omega
   rw[qaj4 (.inr rfl) c1];refine LoadA.cells (qm U 1 Oo) rfl (zw ?_);refine zcv (qbp q.p (hq 1) w2) ?_;rintro v w3 ⟨rfl,W⟩;have H:=H.call W;have U:=U.ext W;conv=>whnf
   by_cases hp:qap q.p=0
   ·rw[Aa Oo];refine zv ?_;rw[qE_2];refine LoadA.cells (qm U 2 Oo) rfl (zw ?_);refine zcv (qbp q.o (hq 2) w3) ?_;rintro v w4 ⟨rfl,Z⟩;have H:=H.call Z;have U:=U.ext Z;conv=>whnf
    by_cases ho:qap q.o=0
    ·rw[Aa Oo];refine zv ?_;refine LoadA.cells (qm U 3 Oo) rfl (zw ?_);refine RunV.eqTerm (a:=q.g) (b:=⟨0,⟨#[]⟩,⟨#[]⟩,⟨#[]⟩⟩) (.inl rfl) ?_;rw[hz];cases hg:qwu q.g
     ·rw[hg]at e3;refine zu ?_
      (repeat'(first|refine zp ?_|refine zC (λ_=>zw ?_) (λ_=>zw ?_)|refine LoadV.mem (i:=0) Oa rfl rfl (zw ?_)))
      ·exact⟨by rw[qE,Ad (by rw[e3];simp;omega)];rfl,H.ext⟩
      all_goals
       have c3:canB 3 q.g=true:=by rw[e3];simp;omega
       refine LoadA.cells (qm U 3 Oo) rfl (zw ?_);refine zcv (qbp q.g (hq 3) w4) ?_;rintro v w5 ⟨rfl,aa⟩;(conv=>whnf);exact⟨by rw[qE,Aa (by rw[c3];simp),Aa Oo],H.ext.trans aa⟩
     ·have c3:canB 3 q.g=true:=by rw[e3,hg];rfl
      have ad:q.g.kind=0:=by
       have:=q6.1 ((hz q.g).trans hg);rw[this]
      refine zu ?_;exact⟨by rw[qE,Aa (by rw[c3];simp),Ad ⟨rfl,ad⟩];rfl,H.ext⟩
    ·rw[Ad ho];refine zv ?_;exact⟨rfl,H.ext⟩
   ·rw[Ad hp];refine zv ?_;exact⟨rfl,H.ext⟩
  ·rw[Ad hs];refine zv ?_;exact⟨rfl,H.ext⟩
theorem qdg{W:Type}(V:W->Ee)(H:Nat)(U:∀x,(V x).length=H):∀(l:List W) (j:Nat) (x:W) (k:Nat),l[j]?=some x->k<H->((l.map V).flatten)[j*H+k]?=(V x)[k]?
 | [],j,x,k,h,_=>by simp at h
 | y::l,0,x,k,h,Z=>by
  simp only[AT,AR]at h;subst h;simp only[AK,Dt,Nat.zero_mul,As];rw[Ba (by rw[U];exact Z)]
 | y::l,j+1,x,k,h,Z=>by
  simp only[BR]at h;simp only[AK,Dt];rw[Be (by rw[U,Cz];omega),U,show(j+1)*H+k-H=j*H+k by rw[Cz];omega];exact qdg V H U l j x k h Z
theorem qdw{α:Type}{enc:α->Ee}{H n:Nat}{l:List α}(U:∀x,(enc x).length=H)(h:w.ownsRow base e H (.slice A n c) n (l.map enc).flatten)(hn:l.length=n):
  SlAt enc H w A l/\n<=c:=by
 obtain⟨h1,⟨h2,V⟩|⟨g,aa,cur,h2,_,V,h4,_,h5,h6⟩⟩:=h
 ·subst V;refine⟨⟨λW=>absurd (Bg hn) W⟩,Ag _⟩
 ·cases h2;refine⟨⟨λ_=>⟨g,0,rfl,λj x hx k v hv=>?_⟩⟩,h4⟩;have hk:k<H:=by
   have:=(Af.1 hv).1
   rwa[U]at this
  have hj:j<n:=by rw[<-hn];exact(Af.1 hx).1
  have Z:j*H+k<n*H:=by
   have:(j+1)*H<=n*H:=Bx _ hj;rw[Cz]at this;omega
  rw[qa V,As,<-hv,<-qdg enc H U l j x k hx hk,<-h6,BE,Ad Z];simp
theorem qad(t:TM):(encT t).length=4:=rfl
def qb8(out:List TM)(x:TM):List TM:=
 match out.getLast? with
 | some z=>bif qaj z x then out else out++[x]
 | none=>out++[x]
def mrgN:Nat->List TM->List TM->List TM->List TM
 | 0,_,_,out=>out
 | f+1,a,b,out=>
  match a,b with
  | [],[]=>out
  | x::a,[]=>mrgN f a [] (qb8 out x)
  | [],y::b=>mrgN f [] b (qb8 out y)
  | x::a,y::b=>if cmpT x y<=0 then mrgN f a (y::b) (qb8 out x)else mrgN f (x::a) b (qb8 out y)
def tmsN:Nat->List TM->List TM
 | 0,l=>l
 | f+1,l=>if l.length<2 then l else mrgN ((tmsN f (l.take (l.length/2))).length+(tmsN f (l.drop (l.length/2))).length) (tmsN f (l.take (l.length/2))) (tmsN f (l.drop (l.length/2))) []
theorem qk2(out:List TM)(x:TM):(qb8 out x).length<=out.length+1:=by
 unfold qb8
 split
 ·cases qaj _ x<;>simp
 ·simp
theorem qma:∀(f:Nat) (a b out:List TM),(mrgN f a b out).length<=a.length+b.length+out.length
 | 0,a,b,out=>by rw[mrgN];omega
 | f+1,a,b,out=>by
  unfold mrgN
  split
  ·omega
  ·rename_i x a
   have:=qma f a [] (qb8 out x);have:=qk2 out x;simp only[AC]at *;omega
  ·rename_i y b
   have:=qma f [] b (qb8 out y);have:=qk2 out y;simp only[AC]at *;omega
  ·rename_i x a y b
   split
   ·have:=qma f a (y::b) (qb8 out x);have:=qk2 out x;simp only[AC]at *;omega
   ·have:=qma f (x::a) b (qb8 out y);have:=qk2 out y;simp only[AC]at *;omega
theorem qnd:∀(f:Nat) (l:List TM),(tmsN f l).length<=l.length
 | 0,l=>Ai _
 | f+1,l=>by
  rw[tmsN]
  split
  ·exact Ai _
  ·have H:=qnd f (l.take (l.length/2));have U:=qnd f (l.drop (l.length/2));refine AI (qma _ _ _ _) ?_;rw[Az]at H;rw[zld]at U;simp only[BO];omega
def TmR(l:List TM)(v:DZ)(w:DU):Prop:=∃B d,v=.slice B l.length d/\l.length<=d/\SlAt encT 4 w B l
theorem TmR.ext{l:List TM}(v:DZ)(w w':DU)(h:TmR l v w)(H:Ext w w'):TmR l v w':=by
 obtain⟨B,d,U,V,W⟩:=h;exact⟨B,d,U,V,W.ext H⟩
theorem qcg{W:Type}(U:W->Ee)(H:Nat)(V:∀x,(U x).length=H)(l:List W):((l.map U).flatten).length=l.length*H:=by
 induction l with
 | nil=>simp
 | cons x l Z=>simp only[AK,Dt,zla,V,Z,AC,Cz];omega
theorem qex{α:Type}{U:α->Ee}{H:Nat}(W:0<H)(V:∀x,(U x).length=H){l:List α}(h:∀(j:Nat) x,l[j]?=some x->CellsAt w b (off+j*H) (U x)):CellsAt w b off (l.map U).flatten:=by
 intro k v Z;have hk:=(Af.1 Z).1;rw[qcg U H V]at hk;have hj:k/H<l.length:=(Du W).2 hk;have hx:=zge hj;have hm:=Cu k W;have he:=qdg U H V l (k/H) _ (k%H) hx hm;rw[show k/H*H+k%H=k from by rw[Cf];exact Nat.div_add_mod k H]at he;rw[he]at Z;have:=h (k/H) _ hx (k%H) v Z
 rwa[show off+k/H*H+k%H=off+k from by rw[C7,show k/H*H+k%H=k from by rw[Cf];exact Nat.div_add_mod k H]]at this
theorem qiu(l:List TM)(A:oA)(c:Nat)(w:DU)(h2:l.length<2)(hS:SlAt encT 4 w A l):
  Gv Eg 82 [.slice A l.length c] w λv w'=>TmR l v w'/\Ext w w':=by
 refine ze Tryz.func82 Tryz.ntmps82 ?_;refine zv ?_;refine⟨λV W hb hw=>?_⟩;have U:Ext w W:=by rw[hw];exact xr.alloc _
 have hg:W.heap[V]?=some (.cells #[] 45):=by rw[hw,hb];exact heap_alloc_new w _
 have hR:Rw w W (.slice (some ⟨V,0,none⟩) 0 0) 45 4 0 [] []:=⟨(Mem.nil w).call U,⟨rfl,.inr ⟨V,0,#[],rfl,by omega,hg,Ai _,Ag _,rfl,rfl⟩⟩,λx Z=>by simp at Z⟩
 (conv=>whnf);refine AppV.rw (m:=l.length) (news:=(l.map encT).flatten) qnx trmI trmZ Jk Jk Od hR (qcg encT 4 qad l) (λaa=>?_) ?_ (by rw[show((Eg.info? 45).get Jk).bytes=56 from by kernel_rfl];omega) Oo ?_
 ·obtain⟨b,off,h3,h4⟩:=hS.at_ (by intro e;subst e;exact aa rfl);exact⟨b,off,h3,(qex Od qad h4).ext U⟩
 ·intro u hu;obtain⟨x,Z,ad⟩:=DP.1 hu;obtain⟨t,_,rfl⟩:=AF.1 Z;exact q9 t u ad
 intro B d w2 H;(conv=>whnf);have e:0+l.length=l.length:=As _;rw[e]at H|-;obtain⟨h3,h4⟩:=qdw qad H.own rfl;exact⟨⟨B,d,rfl,h4,h3⟩,H.mem.ext⟩
theorem qaf1{x y:TM}{a b:List TM}(h:cmpT x y<=0):mrgN ((x::a).length+(y::b).length) (x::a) (y::b) out=mrgN (a.length+(y::b).length) a (y::b) (qb8 out x):=by
 rw[show(x::a).length+(y::b).length=(a.length+(y::b).length)+1 by simp;omega,mrgN,Ad h]
theorem qaf0{x y:TM}{a b:List TM}(h:¬cmpT x y<=0):mrgN ((x::a).length+(y::b).length) (x::a) (y::b) out=mrgN ((x::a).length+b.length) (x::a) b (qb8 out y):=by
 rw[show(x::a).length+(y::b).length=((x::a).length+b.length)+1 by simp;omega,mrgN,Aa h]
theorem V.SlAt.pop{V:Type}{U:V->Ee}{H:Nat}{x:V}{a l:List V}(h:SlAt U H w A l)(e:l=x::a)(W:l.length<=c):
  (∃g o,A=some ⟨g,o,none⟩/\CellsAt w g (o+0*H) (U x))/\SlAt U H w (if c=1 then A else A.map (·.add (1*H))) a:=by
 subst e;obtain⟨g,o,Z,h2⟩:=h.at_ Js;refine⟨⟨g,o,Z,h2 0 x rfl⟩,?_⟩;have:=h.cut (lo:=1) (hi:=(x::a).length) (m:=c) Js znr W rfl
 rwa[show((x::a).drop 1).take ((x::a).length-1)=a from Cb]at this
structure MgG where
 a:List TM
 A:oA
 ca:Nat
 b:List TM
 B:oA
 cb:Nat
 out:List TM
 O:oA
 co:Nat
theorem qwc:∀(n:Nat) (l:List TM) (A:oA) (c:Nat) (w:DU),l.length<=n->SlAt encT 4 w A l->l.length<=c->l.length<=16777216->
  Gv Eg 82 [.slice A l.length c] w λv w'=>TmR (tmsN n l) v w'/\Ext w w':=by
 intro n
 induction n with
 | zero=>
  intro l A c w hn hS hc hl;exact qiu l A c w Oo hS
 | succ n ih=>
  intro l A c w hn hS hc hl
  by_cases h2:l.length<2
  ·rw[tmsN,Ad h2];exact qiu l A c w h2 hS
  have et:tmsN (n+1) l=mrgN ((tmsN n (l.take (l.length/2))).length+(tmsN n (l.drop (l.length/2))).length) (tmsN n (l.take (l.length/2))) (tmsN n (l.drop (l.length/2))) []:=by rw[tmsN,Aa h2]
  rw[et];have ar:(l.take (l.length/2)).length=l.length/2:=by rw[Az];omega
  have aj:(l.drop (l.length/2)).length=l.length-l.length/2:=zld ..;have W:=hS.cut (lo:=0) (hi:=l.length/2) (m:=c) Oo Oo Oo rfl;have Z:=hS.cut (lo:=l.length/2) (hi:=l.length) (m:=c) Oo Oo Oo rfl;rw[BF,C0]at W;rw[Am (by rw[aj];exact Ai _)]at Z;have af:=λw' h=>ih (l.take (l.length/2)) (if c=0 then A else A.map (·.add (0*4))) c w' Oo h Oo Oo
  have ag:=λw' h=>ih (l.drop (l.length/2)) (if c=l.length/2 then A else A.map (·.add (l.length/2*4))) (c-l.length/2) w' Oo h Oo Oo
  rw[ar]at af;rw[aj]at ag;have ak:=qnd n (l.take (l.length/2));have al:=qnd n (l.drop (l.length/2));obtain⟨ta,au⟩:∃ta,ta=tmsN n (l.take (l.length/2)):=⟨_,rfl⟩
  obtain⟨tb,av⟩:∃tb,tb=tmsN n (l.drop (l.length/2)):=⟨_,rfl⟩
  rw[<-au]at af ak|-;rw[<-av]at ag al|-;rw[ar]at ak;rw[aj]at al;clear et au av ih;refine ze Tryz.func82 Tryz.ntmps82 ?_;refine zv ?_;refine DrawV.free Jk Jk (zw ?_);(iterate 4 (refine zd ?_));refine zsd (.slice (if c=0 then A else A.map (·.add (0*4))) (l.length/2) c) (λwd hd=>zw ?_) (zw ?_)
  ·refine SliceV.to 0 (l.length/2) c rfl rfl rfl Oo Oo znr (λh=>by cases h) ?_;rw[show tsz Eg 45=4 from by kernel_rfl];exact xq
  apply StepD.of (TmR ta) TmR.ext
  ·intro wd hd;(conv=>whnf);refine zcv (af wd (W.ext ((Ext.refl w).drew.trans hd))) ?_;rintro v w5 ⟨h1,h2⟩;exact⟨h2,h1⟩
  (conv=>whnf);(iterate 4 (refine zd ?_));refine zsd (.slice (if c=l.length/2 then A else A.map (·.add (l.length/2*4))) (l.length-l.length/2) (c-l.length/2)) (λwd hd=>zw ?_) (zw ?_)
  ·refine SliceV.to (l.length/2) l.length c rfl rfl rfl Oo Oo znr (λh=>by cases h) ?_;rw[show tsz Eg 45=4 from by kernel_rfl];exact xq
  apply StepD.of (TmR tb) TmR.ext
  ·intro wd hd;conv=>whnf
   repeat(intro _ _;(conv=>whnf))
   refine zcv (ag wd (Z.ext ((Ext.refl w).drew.trans hd))) ?_;rintro v w5 ⟨h1,h2⟩;exact⟨h2,h1⟩
  (conv=>whnf);apply StepD.of (TmR ta) TmR.ext
  ·intro wd hd;conv=>whnf
   repeat(rintro _ ⟨_,_,rfl,_,_⟩;(conv=>whnf))
   exact⟨xr,_,_,rfl,by assumption,by assumption⟩
  (conv=>whnf);apply StepD.of (TmR tb) TmR.ext
  ·intro wd hd;conv=>whnf
   repeat(rintro _ ⟨_,_,rfl,_,_⟩;(conv=>whnf))
   exact⟨xr,_,_,rfl,by assumption,by assumption⟩
  (conv=>whnf);intro w4 he;(conv=>whnf);rintro _ ⟨B1,b1,rfl,aw,ax⟩;(conv=>whnf);rintro _ ⟨A1,a1,rfl,ay,az⟩;(conv=>whnf);intro _ _;(conv=>whnf);intro _ _;(conv=>whnf);clear af ag W Z;have a8:Ext w w4:=(Ext.refl w).drew.trans he;refine qk (λx:MgG=>[(3,.slice x.A x.a.length x.ca),(4,.slice x.B x.b.length x.cb),(5,.slice x.O x.out.length x.co)])
   (λx w'=>SlAt encT 4 w4 x.A x.a/\x.a.length<=x.ca/\SlAt encT 4 w4 x.B x.b/\x.b.length<=x.cb/\Rw w4 w' (.slice x.O x.out.length x.co) 45 4 x.out.length (x.out.map encT).flatten []/\mrgN (x.a.length+x.b.length) x.a x.b x.out=mrgN (ta.length+tb.length) ta tb []/\x.a.length+x.b.length+x.out.length<=16777216)
   (λx=>x.a.length+x.b.length) ⟨ta,A1,a1,tb,B1,b1,[],none,0⟩ fq ⟨az,ay,ax,aw,Rw.nil (Mem.nil w4),rfl,by simp only[BO];omega⟩ ?_
  obtain⟨ae,a0⟩:∃ae,ae=mrgN (ta.length+tb.length) ta tb []:=⟨_,rfl⟩
  rw[<-a0];clear az ay ax aw ak al;rintro⟨a,A,ca,b,B,cb,out,O,co⟩ w5 bi ⟨W,am,Z,an,U,H,a9⟩;dsimp only at W am Z an U H a9|-;have hs:∀{k m:Nat},k=m+1->∀X c,Value.slice X (k-1) c=.slice X m c:=λh _ _=>by rw[h];rfl
  have ai:∀l:List TM,(l.length=0/\l=[])\/∃x l',l=x::l'/\l.length=l'.length+1:=λl=>match l with | []=>.inl ⟨rfl,rfl⟩|x::l'=>.inr ⟨x,l',rfl,rfl⟩
  rcases ai a with⟨na,ha⟩|⟨x,a',ea,na⟩<;>rcases ai b with⟨nb,hb⟩|⟨y,b',eb,nb⟩
  ·refine zu ?_;rw[ha,hb]at H;obtain⟨h3,h4⟩:=qdw qad U.own rfl;exact⟨⟨O,co,by rw[<-H];rfl,by rw[<-H];exact h4,by rw[<-H];exact h3⟩,a8.trans U.mem.ext⟩
  refine ?bo
  rotate_left
  refine ?ao
  rotate_left
  refine ?ab
  rotate_left
  case' ab=>
   obtain⟨⟨ga,oa,eA,a2⟩,a3⟩:=W.pop ea am;obtain⟨⟨gb,ob,eB,a4⟩,a5⟩:=Z.pop eb an;subst eA eB;refine if a6:cmpT x y<=0 then ?lo else ?hi
  case' bo=>
   obtain⟨⟨gb,ob,eB,hx⟩,aa⟩:=Z.pop eb an;subst eB
  case' ao=>
   obtain⟨⟨ga,oa,eA,hx⟩,ad⟩:=W.pop ea am;subst eA
  all_goals
   refine zu ?_;refine NewV.rw U λtp w6 U=>zw ?_;refine DrawV.free Jk Jk (zw ?_);(iterate 9 (refine zd ?_))
  case' bo|ao=>
   (iterate 9 (refine zd ?_))
  case' lo|hi=>
   refine zf ?_ (by intro wd hd;refine zu ?_;refine⟨⟨ga,oa,0,rfl,by omega,by omega,?_⟩⟩;exact xq);apply zsd (qv x)
   ·intro wd hd;refine zu ?_;refine LoadA.cells (CellsAt.ext a2 ((U.mem.ext.trans (Ext.refl w6).drew).trans hd)) rfl (zw ?_);exact xq
   (conv=>whnf);refine zd ?_;refine zf ?_ (by intro wd hd;refine zu ?_;refine⟨⟨gb,ob,0,rfl,by omega,by omega,?_⟩⟩;exact xq);apply zsd (qv y)
   ·intro wd hd;refine zu ?_;refine LoadA.cells (CellsAt.ext a4 ((U.mem.ext.trans (Ext.refl w6).drew).trans hd)) rfl (zw ?_);exact xq
   (conv=>whnf);apply zsd (ii (cmpT x y))
   ·intro wd hd;refine zu ?_;refine zcv (qbg x y wd) ?_;rintro v w7 ⟨rfl,h7⟩;exact⟨h7,rfl⟩
   (conv=>whnf);(iterate 3 (refine zd ?_))
  case' ao=>
   obtain⟨t,rfl⟩:∃t,t=x:=⟨_,rfl⟩
   have H:mrgN (a'.length+b.length) a' b (qb8 out t)=ae:=by
    rw[<-H];subst hb ea;rw[show(t::a').length+([]:List TM).length=(a'.length+([]:List TM).length)+1 by simp];rfl
  case' bo=>
   obtain⟨t,rfl⟩:∃t,t=y:=⟨_,rfl⟩
   have H:mrgN (a.length+b'.length) a b' (qb8 out t)=ae:=by
    rw[<-H];subst ha eb;rw[show([]:List TM).length+(t::b').length=(([]:List TM).length+b'.length)+1 by simp];rfl
  case' lo=>
   obtain⟨t,rfl⟩:∃t,t=x:=⟨_,rfl⟩
   have hx:=a2;have ad:=a3;have H:mrgN (a'.length+b.length) a' b (qb8 out t)=ae:=by
    rw[<-H];subst ea eb;exact(qaf1 a6).symm
  case' hi=>
   obtain⟨t,rfl⟩:∃t,t=y:=⟨_,rfl⟩
   have hx:=a4;have aa:=a5;have H:mrgN (a.length+b'.length) a b' (qb8 out t)=ae:=by
    rw[<-H];subst ea eb;exact(qaf0 a6).symm
  case' bo|hi=>
   have s3:∀X c,Value.slice X a.length c=.slice X a.length c:=λ_ _=>rfl
   have s4:=hs nb;have ad:=W
  case' ao|lo=>
   have s4:∀X c,Value.slice X b.length c=.slice X b.length c:=λ_ _=>rfl
   have s3:=hs na;have aa:=Z
  all_goals
   intro w7 ba;have U:=U.drew.call ba;refine zu ?_;refine⟨⟨_,_,0,rfl,by omega,by omega,?_⟩⟩;(conv=>whnf);refine LoadA.cells (CellsAt.ext hx U.mem.ext) rfl (zw ?_);refine StoreA.rwAll U rfl (q9 t) λw8 U=>zw ?_;refine SliceV.to 1 _ _ rfl rfl rfl Oo Oo znr (λh=>by cases h) ?_;rw[show tsz Eg 45=4 from by kernel_rfl];conv=>whnf
   rcases V:out.getLast? with _|z
   case' none=>
    have aq:out.length=0:=by rw[List.getLast?_eq_none_iff.1 V];rfl
    have ah:qb8 out t=out++[t]:=by rw[qb8,V]
    have U:=U.drew;refine zy ?_;refine zv ?_
   case' some=>
    obtain⟨bb,bj⟩:=qdw qad U.own rfl;have aq:out≠[]:=by intro e;rw[e]at V;cases V
    have bk:=Cw.2 aq;have hz:out[out.length-1]?=some z:=by rw[<-V,List.getLast?_eq_getElem?]
    obtain⟨go,oo,eO,be⟩:=bb.at_ aq;subst eO;have bf:=be (out.length-1) z hz;refine zy ?_;refine zv ?_;refine⟨⟨go,oo,out.length-1,rfl,by omega,by omega,?_⟩⟩;refine zu ?_;refine LoadA.cells (CellsAt.ext bf xr.drew) rfl (zu ?_);refine zl U.mem.drew 0 ?_;refine zv ?_;refine RunV.eqTerm (a:=z) (b:=t) (.inr rfl) ?_;cases a7:qaj z t
   case' true=>
    have ah:qb8 out t=out:=by rw[qb8,V];simp only[a7,cond_true]
    refine zu ?_;rw[ah]at H;exact⟨⟨_,_,_,_,_,_,out,_,co⟩,⟨s3 _ _,s4 _ _,rfl,trivial⟩,⟨ad,by simp only;omega,aa,by simp only;omega,U.tail.drew,H,by simp only;omega⟩,by simp only;omega⟩
   case' false=>
    have ah:qb8 out t=out++[t]:=by rw[qb8,V];simp only[a7,cond_false]
    have U:=U.drew;refine zu ?_
   all_goals
    refine zl U.mem 0 ?_;refine NewV.rw U λbg bl U=>zw ?_;refine AppV.rw (m:=1) (news:=encT t) qnx trmI trmZ Jk Jk Od U rfl (λ_=>⟨bg,0,rfl,λk v hv=>?_⟩) (q9 t) (by rw[show((Eg.info? 45).get Jk).bytes=56 from by kernel_rfl];omega) Oo ?_
    ·rw[qa (U.mem.get mh),As,An];exact hv
    clear U;intro B2 c2 bh U;have U:Rw w4 bh (.slice B2 (out++[t]).length c2) 45 4 (out++[t]).length ((out++[t]).map encT).flatten []:=by
     have e:((out++[t]).map encT).flatten=(out.map encT).flatten++encT t:=by simp
     rw[e,zla];exact U.tail.tail
    (conv=>whnf);rw[ah]at H;refine⟨⟨_,_,_,_,_,_,out++[t],B2,c2⟩,⟨s3 _ _,s4 _ _,?_,trivial⟩,⟨ad,by simp only;omega,aa,by simp only;omega,U,H,?_⟩,by simp only;omega⟩
    ·first|rfl|(show Value.slice _ (out.length+1) _=Value.slice _ (out++[_]).length _;rw[zla];rfl)
    ·simp only[zla,BC];omega
def ApI(w0:DU)(e:DX)(H n m:Nat)(v0:DZ)(xs news:Ee)(U V s3:Bool)(v1 v2 v3:DZ)(w':DU):Prop:=
 (U=false/\V=false/\s3=false/\Rw w0 w' v0 e H n xs [])\/
 (U=true/\V=false/\s3=false/\∃W,v1=.slice (some ⟨W,0,none⟩) m m/\Rw w0 w' v0 e H n xs [(W,.cells news.toArray e)])\/
 (U=true/\V=true/\∃B c,v2=.slice B (n+m) c/\(s3=true->v3=.slice B (n+m) c)/\Rw w0 w' (.slice B (n+m) c) e H (n+m) (xs++news) [])
theorem ApI.ext{H n:Nat}{U V:Bool}(h:ApI w0 e H n m v0 xs news U V s3 v1 v2 v3 w'):Ext w0 w':=by
 rcases h with⟨_,_,_,h⟩|⟨_,_,_,_,_,h⟩|⟨_,_,_,_,_,_,h⟩
 all_goals exact h.mem.ext
theorem ApI.build{H n:Nat}{V:Bool}(h:ApI w0 e H n m v0 xs news false V s3 v1 v2 v3 w)(W:b=w.heap.size)(Z:w'=w.alloc (.cells news.toArray e)):
  ApI w0 e H n m v0 xs news true V s3 (.slice (some ⟨b,0,none⟩) m m) v2 v3 w':=by
 rcases h with⟨_,h2,h3,h⟩|⟨U,_⟩|⟨U,_⟩
 ·exact .inr (.inl ⟨rfl,h2,h3,b,rfl,h.newBlk W Z⟩)
 ·cases U
 ·cases U
theorem ApI.mid{H n:Nat}(h:ApI w0 e H n m v0 xs news true false s3 v1 v2 v3 w):
  s3=false/\∃U,v1=.slice (some ⟨U,0,none⟩) m m/\Rw w0 w v0 e H n xs [(U,.cells news.toArray e)]:=by
 rcases h with⟨V,_⟩|⟨_,_,W,h⟩|⟨_,Z,_⟩
 ·cases V
 ·exact⟨W,h⟩
 ·cases Z
theorem ApI.end_{H n:Nat}{V:Bool}(h:ApI w0 e H n m v0 xs news V true s3 v1 v2 v3 w):
  V=true/\∃B c,v2=.slice B (n+m) c/\(s3=true->v3=.slice B (n+m) c)/\Rw w0 w (.slice B (n+m) c) e H (n+m) (xs++news) []:=by
 rcases h with⟨_,U,_⟩|⟨_,U,_⟩|⟨W,_,h⟩
 ·cases U
 ·cases U
 ·exact⟨W,h⟩
def trQ(q:Q4):List TM:=[q.s,q.p,q.o]++if q.g.kind=0 then[]else[q.g]
def trms(H:List Q4):List TM:=(H.map trQ).flatten
theorem qakj(q:Q4):(trQ q).length<=4:=by unfold trQ;split<;>simp
theorem qwh(H:List Q4):(trms H).length<=4*H.length:=by
 induction H with
 | nil=>exact Ai _
 | cons q H U=>
  have:=qakj q;simp only[trms,AK,Dt,zla,AC]at U|-;omega
theorem qt4(H:List Q4)(i:Nat)(q:Q4)(h:H[i]?=some q):trms (H.take (i+1))=trms (H.take i)++trQ q:=by
 rw[BD,h];simp[trms]
theorem q25(q:Q4):∀v∈encT q.s++encT q.p++encT q.o,v.oneCell'=true:=by
 intro v H
 rcases Bc.1 H with H|H
 ·rcases Bc.1 H with H|H
  ·exact q9 _ v H
  ·exact q9 _ v H
 ·exact q9 _ v H
theorem qge(Z:List Q4)(A:oA)(c:Nat)(w:DU)(hS:SlAt qf 16 w A Z)(hl:Z.length<=4194304):
  Gv Eg 33 [.slice A Z.length c] w λv w'=>TmR (tmsN (trms Z).length (trms Z)) v w'/\Ext w w':=by
 refine ze Tryz.func33 Tryz.ntmps33 ?_;refine qk (λx:Nat×List TM×oA×Nat=>[(0,.slice A Z.length c),(3,.slice x.2.2.1 x.2.1.length x.2.2.2),(4,ii x.1)])
  (λx w'=>x.1<=Z.length/\x.2.1=trms (Z.take x.1)/\Rw w w' (.slice x.2.2.1 x.2.1.length x.2.2.2) 45 4 x.2.1.length (x.2.1.map encT).flatten []) (λx=>Z.length-x.1) (0,[],none,0)
  fq ⟨by simp,rfl,Rw.nil (Mem.nil w)⟩ ?_
 rintro⟨i,out,B,cb⟩ w1 aq ⟨h1,h2,W⟩;dsimp only at h1 h2 W|-;(conv=>whnf);refine zC (λ_=>zw ?_) (λ_=>zw ?_)
 ·have ah:i<Z.length:=by omega
  obtain⟨g,o,eA,hc⟩:=hS.at_ (by intro e;rw[e]at ah;simp at ah);subst eA;obtain⟨q,hq⟩:∃q,Z[i]?=some q:=⟨_,zge ah⟩
  have ad:=hc i q hq;have al:=qwh (Z.take i);rw[<-h2,Az,BG h1]at al;refine DrawV.gen (λS H w'=>ApI w 45 4 out.length 3 (.slice B out.length cb) (out.map encT).flatten (encT q.s++encT q.p++encT q.o) (S 16) (S 17) (S 18) (H 16) (H 17) (H 18) w') rfl Jk (λH=>.inl ⟨rfl,rfl,rfl,W.drew⟩) ?_;clear W;(conv=>whnf);(iterate 3 (refine zg ?_));refine StepG.of (.pointer (some ⟨g,o+i*16,none⟩)) (λS H wd hk hp V=>zw ?_) ?_
  ·refine⟨⟨g,o,i,rfl,by omega,by omega,?_⟩⟩;rw[show tsz Eg 47=16 from by kernel_rfl];(conv=>whnf);exact⟨rfl,V⟩
  refine StepG.of (.pointer (some ⟨g,o+i*16+0,none⟩)) (λS H wd hk hp V=>zw ?_) ?_
  ·exact⟨rfl,V⟩
  refine StepG.of (qv q.s) (λS H wd hk hp V=>zw ?_) (zw ?_)
  ·refine LoadA.cells ((qm ad 0 Oo).ext V.ext) rfl (zw ?_);exact⟨rfl,V⟩
  refine zg ?_;refine zg ?_;refine StepG.of (.pointer (some ⟨g,o+i*16,none⟩)) (λS H wd hk hp V=>zw ?_) ?_
  ·refine⟨⟨g,o,i,rfl,by omega,by omega,?_⟩⟩;rw[show tsz Eg 47=16 from by kernel_rfl];(conv=>whnf);exact⟨rfl,V⟩
  refine StepG.of (.pointer (some ⟨g,o+i*16+4,none⟩)) (λS H wd hk hp V=>zw ?_) ?_
  ·exact⟨rfl,V⟩
  refine StepG.of (qv q.p) (λS H wd hk hp V=>zw ?_) (zw ?_)
  ·refine LoadA.cells ((qm ad 1 Oo).ext V.ext) rfl (zw ?_);exact⟨rfl,V⟩
  refine zg ?_;refine zg ?_;refine StepG.of (.pointer (some ⟨g,o+i*16,none⟩)) (λS H wd hk hp V=>zw ?_) ?_
  ·refine⟨⟨g,o,i,rfl,by omega,by omega,?_⟩⟩;rw[show tsz Eg 47=16 from by kernel_rfl];(conv=>whnf);exact⟨rfl,V⟩
  refine StepG.of (.pointer (some ⟨g,o+i*16+8,none⟩)) (λS H wd hk hp V=>zw ?_) ?_
  ·exact⟨rfl,V⟩
  refine StepG.of (qv q.o) (λS H wd hk hp V=>zw ?_) ?_
  ·refine LoadA.cells ((qm ad 2 Oo).ext V.ext) rfl (zw ?_);exact⟨rfl,V⟩
  refine StepG.any (λS H wd hk hp V=>?_) ?_
  ·dsimp only at V;rw[hk]at V;(conv=>whnf);refine⟨λb w' hb hw=>?_⟩;(conv=>whnf);exact⟨trivial,V.build hb hw⟩
  refine StepG.any (λS H wd hk hp V=>?_) ?_
  ·dsimp only at V;have af:S 16=true:=hp 16 Od;rw[hk,af]at V;obtain⟨am,nb,hv,W⟩:=V.mid;rw[qp hv];(conv=>whnf);refine AppV.rw (m:=3) (news:=encT q.s++encT q.p++encT q.o) qnx trmI trmZ Jk Jk Od W rfl (λ_=>⟨nb,0,rfl,λk v hv=>?_⟩) (q25 q) (by rw[show((Eg.info? 45).get Jk).bytes=56 from by kernel_rfl];omega) Oo ?_
   ·rw[qa (W.mem.get mh),As];rw[An];exact hv
   intro B2 c2 ar an;exact⟨trivial,.inr (.inr ⟨af,rfl,B2,c2,rfl,λh=>absurd (am.symm.trans h) Od,an.tail⟩)⟩
  refine StepG.any (λS H wd hk hp V=>?_) ?_
  ·dsimp only at V;have aj:S 17=true:=hp 17 Od;rw[hk,aj]at V;obtain⟨af,B2,c2,hv,_,W⟩:=V.end_;rw[qp hv];(conv=>whnf);exact⟨trivial,.inr (.inr ⟨af,aj,B2,c2,rfl,λ_=>rfl,W⟩)⟩
  intro H w2 V;obtain⟨_,B2,c2,hv,ag,W⟩:=V.end_;replace ag:=ag rfl;rw[qp hv,qp ag];clear V hv ag;obtain⟨U,aa⟩:∃U,U=out++[q.s,q.p,q.o]:=⟨_,rfl⟩
  have ak:U.length=out.length+3:=by rw[aa];simp
  have W:Rw w w2 (.slice B2 U.length c2) 45 4 U.length (U.map encT).flatten []:=by
   have e:(U.map encT).flatten=(out.map encT).flatten++(encT q.s++encT q.p++encT q.o):=by rw[aa];simp
   rw[e,ak];exact W
  rw[<-ak];have ao:w2.cell? ⟨g,o+i*16+12,none⟩=some (ii q.g.kind):=Ext.cell W.mem.ext (qm ad 3 Oo 0 _ rfl);(conv=>whnf);refine⟨⟨g,o,i,rfl,by omega,by omega,?_⟩⟩;rw[show tsz Eg 47=16 from by kernel_rfl];refine LoadV.of ao (zw ?_);refine zC (λ_=>zu ?_) (λ_=>zu ?_)
  ·have ae:U++[q.g]=out++trQ q:=by rw[aa,trQ,Aa Oo];simp
   refine⟨⟨g,o,i,rfl,by omega,by omega,?_⟩⟩;rw[show tsz Eg 47=16 from by kernel_rfl];refine LoadA.cells ((qm ad 3 Oo).ext W.mem.ext) rfl ?_;refine NewV.rw W λnb w3 W=>zw ?_;refine AppV.rw (m:=1) (news:=encT q.g) qnx trmI trmZ Jk Jk Od W rfl (λ_=>⟨nb,0,rfl,λk v hv=>?_⟩) (q9 q.g) (by rw[show((Eg.info? 45).get Jk).bytes=56 from by kernel_rfl];omega) Oo ?_
   ·rw[qa (W.mem.get mh),As];rw[An];exact hv
   clear W;intro B3 c3 w4 W;have W:Rw w w4 (.slice B3 (out++trQ q).length c3) 45 4 (out++trQ q).length ((out++trQ q).map encT).flatten []:=by
    have e:((out++trQ q).map encT).flatten=(U.map encT).flatten++encT q.g:=by rw[<-ae];simp
    rw[e,<-ae,zla];exact W.tail
   refine zu ?_;refine⟨(i+1,out++trQ q,B3,c3),⟨rfl,?_,rfl,trivial⟩,⟨by simp only;omega,?_,W⟩,by simp only;omega⟩
   ·show Value.slice B3 (U.length+1) c3=Value.slice B3 (out++trQ q).length c3;rw[<-ae,zla];rfl
   ·show out++trQ q=trms (Z.take (i+1));rw[qt4 Z i q hq,<-h2]
  ·have ae:U=out++trQ q:=by rw[aa,trQ,Ad Oo];simp
   refine⟨(i+1,U,B2,c2),fq,⟨by simp only;omega,?_,W⟩,by simp only;omega⟩;show U=trms (Z.take (i+1));rw[qt4 Z i q hq,<-h2,ae]
 ·obtain rfl:i=Z.length:=by omega
  rw[Cb]at h2;subst h2;have au:=qwh Z;obtain⟨o1,o2⟩:=qdw qad W.own rfl;have ai:=qwc (trms Z).length (trms Z) B cb w1 znr o1 o2 Oo;generalize trms Z=ts at *;refine zcv (ai) ?_;rintro v w5 ⟨h5,h6⟩;obtain⟨B5,d5,rfl,_,_⟩:=id h5;(conv=>whnf);exact⟨h5,W.mem.ext.trans h6⟩
def sT(ts:List TM)(j:Nat):TM:=if j=0 then zTM else ts.getD (j-1) zTM
def sQ(ts:List TM)(q:Nat->Nat):Q4:=⟨sT ts (q 1),sT ts (q 2),sT ts (q 3),sT ts (q 0)⟩
def sA(ts:List TM)(q:Nat->Nat)(k j:Nat):TM:=if j<k then sT ts (q j)else zTM
def sR(ts:List TM)(q:Nat->Nat)(k:Nat):Q4:=⟨sA ts q k 0,sA ts q k 1,sA ts q k 2,sA ts q k 3⟩
def idE(q:Nat->Nat):Ee:=[ii (q 0:Nat),ii (q 1:Nat),ii (q 2:Nat),ii (q 3:Nat)]
theorem qai3(q:Nat->Nat)(k:Nat)(H:k<4):(idE q)[k]?=some (ii (q k:Nat)):=by
 rcases(show k=0\/k=1\/k=2\/k=3 by omega)with rfl|rfl|rfl|rfl<;>rfl
theorem qaj8(ts:List TM)(q:Nat->Nat)(k:Nat)(H:k<4):((qf (sR ts q k)).take (k*4)++encT (sT ts (q k))++(qf (sR ts q k)).drop (k*4+4))=qf (sR ts q (k+1)):=by
 rcases(show k=0\/k=1\/k=2\/k=3 by omega)with rfl|rfl|rfl|rfl<;>rfl
theorem qahg(ts:List TM)(q:Nat->Nat)(k:Nat)(h:q k=0):sR ts q (k+1)=sR ts q k:=by
 have e:∀j,sA ts q (k+1) j=sA ts q k j:=λj=>by
  unfold sA
  by_cases H:j<k
  ·rw[Ad H,Ad Oo]
  ·by_cases U:j=k
   ·subst U;rw[Ad Oo,Aa Oo,h];rfl
   ·rw[Aa Oo,Aa H]
 simp only[sR,e]
theorem qabr:TermOk zTM:=⟨⟨by decide,by decide⟩,by decide,by decide,by decide⟩
theorem qaa8(h:∀t∈ts,TermOk t)(U:j<=ts.length):TermOk (sT ts j):=by
 unfold sT
 split
 ·exact qabr
 ·have H:j-1<ts.length:=by omega
  rw[Ah,zge H];exact h _ (AH H)
theorem qak9(h:∀t∈ts,TermOk t){q:Nat->Nat}(H:∀j,j<4->q j<=ts.length):qa5 (sQ ts q):=by
 intro k;unfold Q4.at
 split
 ·exact qaa8 h (H 1 Oo)
 ·exact qaa8 h (H 2 Oo)
 ·exact qaa8 h (H 3 Oo)
 ·exact qaa8 h (H 0 Oo)
theorem qmp(q:Q4):(qf q).length=16:=rfl
theorem qb1(q:Q4):∀v∈qf q,v.oneCell'=true:=by
 intro v H;unfold qf at H
 rcases Bc.1 H with H|H
 ·exact q9 _ v H
 ·rcases Bc.1 H with H|H
  ·exact q9 _ v H
  ·rcases Bc.1 H with H|H
   ·exact q9 _ v H
   ·exact q9 _ v H
namespace V
theorem StoreA.rwAt{v:DZ}{H n:Nat}{t:DX}{K:Ec}(h:Rw w0 w v e H n xs ((b,.cells cur t)::L))(hl:off+vs.length<=cur.size)(h1:∀v∈vs,v.oneCell'=true)(U:∀w',Rw w0 w' v e H n xs ((b,.cells (cur.toList.take off++vs++cur.toList.drop (off+vs.length)).toArray t)::L)->K w'):StoreA P w b off vs K:=by
 have W:=h.mem.get mh;have Z:v.ownBlock≠some b:=h.apart _ mh;have hr:=run_storeCells_at P b off t vs 0 cur w W (by simpa using hl) h1;have ec:(cur.toList.take (off+0)++vs++cur.toList.drop (off+0+vs.length)).toArray=(cur.toList.take off++vs++cur.toList.drop (off+vs.length)).toArray:=by rw[BB]
 rw[ec]at hr;refine⟨_,hr,U _ ⟨?_,?_,λy V=>?_⟩⟩
 ·have:=h.mem.set (i:=0) (b:=b) (o:=.cells cur t) (o':=.cells (cur.toList.take off++vs++cur.toList.drop (off+vs.length)).toArray t) rfl (w':=w.setRow b _) ?_ (qbw W) (λc hc=>qq hc)
  ·exact this
  ·exact Below.trans h.mem.ext ⟨rfl,rfl,rfl,by simp[World.setRow],λk U=>qq (by have:=(h.mem.own _ mh).1;simp only at this;omega)⟩
 ·refine h.own.kept (row:=some b) ⟨rfl,rfl,rfl,by simp[World.setRow],λk _ U=>qq (λe=>U (by simp[e]))⟩ (Or.inr Z)
 ·rcases AB.1 V with rfl|V
  ·exact Z
  ·exact h.apart y (zmc V)
end V
theorem qdSl:Eg.underlying 22=some (.slice 47):=Tryz.underlying22
theorem qdI:Eg.info? 47=some ((Eg.info? 47).get Jk):=(Bt _).symm
theorem qdZ:((Eg.info? 47).get Jk).zero=some ((((Eg.info? 47).get Jk).zero).get Jk):=(Bt _).symm
theorem qahi(ts:List TM)(U:List (Nat->Nat))(A B:oA)(cA cB:Nat)(w:DU)(hA:SlAt encT 4 w A ts)(hB:SlAt idE 4 w B U)(ad:∀t∈ts,TermOk t)(al:ts.length<=16777216)(hl:U.length<=4194304)(hI:∀q∈U,(∀j,j<4->q j<=ts.length)/\qbo (sQ ts q)=0):
  Gv Eg 99 [.slice A ts.length cA,.slice B U.length cB] w λv w'=>(∃B c,v=.tuple #[.slice B U.length c,.bool true]/\w'.ownsRow w.heap.size 47 16 (.slice B U.length c) U.length ((U.map (sQ ts)).map qf).flatten)/\Ext w w':=by
 refine ze Tryz.func99 Tryz.ntmps99 ?_;refine qk (λx:Nat×oA×Nat=>[(0,.slice A ts.length cA),(1,.slice B U.length cB),(6,.slice x.2.1 x.1 x.2.2),(7,ii x.1)])
  (λx w'=>x.1<=U.length/\Rw w w' (.slice x.2.1 x.1 x.2.2) 47 16 x.1 (((U.take x.1).map (sQ ts)).map qf).flatten []) (λx=>U.length-x.1) (0,none,0)
  fq ⟨by simp,Rw.nil (Mem.nil w)⟩ ?_
 rintro⟨i,C,cc⟩ w1 am ⟨h1,H⟩;dsimp only at h1 H|-;(conv=>whnf);refine zC (λ_=>zw ?_) (λ_=>zw ?_)
 ·have W:i<U.length:=by omega
  obtain⟨gi,oi,eB,ae⟩:=hB.at_ (by intro e;rw[e]at W;simp at W);subst eB;obtain⟨q,hq⟩:∃q,U[i]?=some q:=⟨_,zge W⟩
  have af:=ae i q hq;obtain⟨hj,an⟩:=hI q (zmg hq);refine NewV.rw H ?_;clear H;intro tb w2 H;have H:Rw w w2 (.slice C i cc) 47 16 i (((U.take i).map (sQ ts)).map qf).flatten [(tb,.cells (qf (sR ts q 0)).toArray 166)]:=H;(conv=>whnf);refine qk (λk:Nat=>[(0,.slice A ts.length cA),(1,.slice (some ⟨gi,oi,none⟩) U.length cB),(6,.slice C i cc),(7,ii i),(8,pp tb),(9,ii k)])
   (λk w'=>k<=4/\Rw w w' (.slice C i cc) 47 16 i (((U.take i).map (sQ ts)).map qf).flatten [(tb,.cells (qf (sR ts q k)).toArray 166)]) (λk=>4-k) 0
   fq ⟨by omega,H⟩ ?_
  clear H;rintro k w3 ao ⟨k1,H⟩;have aq:=hj k;conv=>whnf
  (repeat'(first|refine zC (λ_=>zw ?_) (λ_=>zw ?_)|(refine zJ 0 ?_;(conv=>whnf))))
  ·have Z:w3.cell? ⟨gi,oi+i*4+k,none⟩=some (ii (q k:Nat)):=Ext.cell H.mem.ext (af k _ (qai3 q k Oo));refine⟨⟨gi,oi,i,rfl,by omega,by omega,?_⟩⟩;rw[show tsz Eg 95=4 from by kernel_rfl];refine zu ?_;rw[show tsz Eg 3=1 from by kernel_rfl,AZ];refine LoadV.of Z (zu ?_);refine⟨⟨gi,oi,i,rfl,by omega,by omega,?_⟩⟩;rw[show tsz Eg 95=4 from by kernel_rfl];refine zu ?_;rw[show tsz Eg 3=1 from by kernel_rfl,AZ];refine LoadV.of Z (zw ?_);refine zC (λ_=>zu ?_) (λ_=>zu ?_)
   ·have V:0<ts.length:=by omega
    obtain⟨ga,oa,eA,ag⟩:=hA.at_ (by intro e;rw[e]at V;simp at V);subst eA;have aa:q k-1<ts.length:=by omega
    have ah:=ag (q k-1) _ (zge aa);have ai:sT ts (q k)=ts[q k-1]:=by rw[sT,Aa Oo,Ah,zge aa];rfl
    refine⟨⟨gi,oi,i,rfl,by omega,by omega,?_⟩⟩;rw[show tsz Eg 95=4 from by kernel_rfl];refine zu ?_;rw[show tsz Eg 3=1 from by kernel_rfl,AZ];refine LoadV.of Z (zu ?_);refine⟨⟨ga,oa,q k-1,rfl,by omega,by omega,?_⟩⟩;rw[show tsz Eg 45=4 from by kernel_rfl];(conv=>whnf);refine LoadA.cells (ah.ext H.mem.ext) rfl (zu ?_);rw[show tsz Eg 45=4 from by kernel_rfl,As];refine StoreA.rwAt H (by show k*4+4<=16;omega) (q9 _) λw4 H=>zu ?_;refine⟨k+1,fq,⟨by omega,?_⟩,by omega⟩
    ·rw[<-qaj8 ts q k Oo,ai];exact H
   ·refine⟨k+1,fq,⟨by omega,?_⟩,by omega⟩
    ·rw[qahg ts q k Oo];exact H
  ·obtain rfl:k=4:=by omega
   have hc:CellsAt w3 tb 0 (qf (sR ts q 4)):=CellsAt.mem H.mem mh;rw[show tsz Eg 45=4 from by kernel_rfl];refine LoadA.cells (qm hc 0 Oo) rfl (zw ?_);refine zJ 1 ?_;(conv=>whnf);rw[show tsz Eg 45=4 from by kernel_rfl];refine LoadA.cells (qm hc 1 Oo) rfl (zw ?_);refine zJ 2 ?_;(conv=>whnf);rw[show tsz Eg 45=4 from by kernel_rfl];refine LoadA.cells (qm hc 2 Oo) rfl (zw ?_);refine zJ 3 ?_;(conv=>whnf);rw[show tsz Eg 45=4 from by kernel_rfl];refine LoadA.cells (qm hc 3 Oo) rfl (zw ?_);have aj:=qak9 ad hj;refine NewV.rw H λqb w4 H=>zw ?_;refine StoreA.rwAll (vs:=qf (sQ ts q)) H rfl (qb1 _) λw5 H=>zw ?_;refine zl H.mem 0 ?_;refine zcv (qfi (sQ ts q) aj w5) ?_;rintro v w6 ⟨rfl,ak⟩;have H:=H.call ak;refine zu ?_;refine zl H.mem 0 ?_;refine NewV.rw H λnb w7 H=>zw ?_;refine AppV.rw (m:=1) (news:=qf (sQ ts q)) qdSl qdI qdZ Jk Jk Od H rfl (λ_=>⟨nb,0,rfl,λk v hv=>?_⟩) (qb1 _) (by rw[show((Eg.info? 47).get Jk).bytes=224 from by kernel_rfl];omega) Oo ?_
   ·rw[qa (H.mem.get mh),As];rw[An];exact hv
   clear H;intro C2 c2 w8 H;have et:U.take (i+1)=U.take i++[q]:=by rw[BD,hq];rfl
   have H:Rw w w8 (.slice C2 (i+1) c2) 47 16 (i+1) (((U.take (i+1)).map (sQ ts)).map qf).flatten []:=by
    have e:(((U.take (i+1)).map (sQ ts)).map qf).flatten=(((U.take i).map (sQ ts)).map qf).flatten++qf (sQ ts q):=by rw[et];simp
    rw[e];exact H.tail.tail.tail
   refine zu ?_;exact⟨(i+1,C2,c2),fq,⟨by simp only;omega,H⟩,by simp only;omega⟩
 ·obtain rfl:i=U.length:=by omega
  rw[Cb]at H;exact⟨⟨C,cc,rfl,H.own⟩,H.mem.ext⟩
def LtT(a b:TM):Prop:=a.kind<b.kind\/(a.kind=b.kind/\(slt a.text b.text=true\/(a.text=b.text/\(slt a.type b.type=true\/(a.type=b.type/\slt a.lang b.lang=true)))))
theorem qah2{a b:DV}:txtC a b<0↔slt a b=true:=by
 grind [txtC]
theorem q68{a b:DV}:txtC a b=0↔a=b:=by
 grind [txtC,qjx,qaf]
theorem qav{a b:TM}:cmpT a b<0↔LtT a b:=by
 grind [cmpT,LtT,qah2,q68,qjx]
theorem qau{a b:TM}:cmpT a b=0↔a=b:=by
 obtain⟨V,H,W,Z⟩:=a;obtain⟨bk,bt,U,bl⟩:=b
 grind [cmpT,q68]
theorem LtT.irrefl(a:TM):¬LtT a a:=λh=>by
 have H:=qav.2 h
 grind [qau]
theorem LtT.ne{a b:TM}(h:LtT a b):a≠b:=by
 grind [LtT.irrefl]
theorem LtT.trans{a b c:TM}(h:LtT a b)(g:LtT b c):LtT a c:=by
 grind [LtT,qm5]
theorem LtT.tri(a b:TM):LtT a b\/a=b\/LtT b a:=by
 unfold LtT
 rcases Int.lt_trichotomy a.kind b.kind with h|h|h
 ·omega
 ·rcases qq5 a.text b.text with H|H|H
  ·simp_all
  ·rcases qq5 a.type b.type with U|U|U
   ·simp_all
   ·rcases qq5 a.lang b.lang with V|V|V
    ·simp_all
    ·refine .inr (.inl ?_);cases a;simp_all
    simp_all
   simp_all
  simp_all
 omega
def RiseT(l:List TM):Prop:=l.Pairwise LtT
def AheadT(out l:List TM):Prop:=∀z,out.getLast?=some z->∀x∈l,z=x\/LtT z x
theorem RiseT.lt_last(h:RiseT out){z:TM}(U:out.getLast?=some z):∀x∈out,x=z\/LtT x z:=by
 obtain⟨V,rfl⟩:=List.getLast?_eq_some_iff.1 U;intro x H
 rcases Bc.1 H with H|H
 ·exact .inr ((Cq.1 h).2.2 x H z Js)
 simp_all
theorem qgr{x:TM}(h:RiseT out)(V:AheadT out [x]):RiseT (qb8 out x)/\(∀y,y∈qb8 out x↔y∈out\/y=x)/\(qb8 out x).getLast?=some x:=by
 unfold qb8
 split
 ·rename_i z U
  rcases V z U x Js with rfl|H
  ·grind [q6]
  ·have:qaj z x=false:=CW.2 λe=>H.ne (q6.1 e)
   rw[this];refine⟨?_,λy=>by simp,by simp⟩;refine Cq.2 ⟨h,Js,λa W b Z=>?_⟩;rw[Ak.1 Z]
   rcases h.lt_last U a W with rfl|g
   ·exact H
   ·exact g.trans H
 ·rename_i U
  have:out=[]:=List.getLast?_eq_none_iff.1 U;subst this;exact⟨CL _ _,λy=>by simp,rfl⟩
theorem AheadT.next{a:List TM}{x:TM}(U:RiseT (x::a))(V:(qb8 out x).getLast?=some x):AheadT (qb8 out x) a:=λz H y W=>by
 rw[V]at H;cases H;exact .inr ((Bo.1 U).1 y W)
theorem qfy:∀(f:Nat) (a b out:List TM),a.length+b.length<=f->RiseT a->RiseT b->RiseT out->AheadT out a->AheadT out b->RiseT (mrgN f a b out)/\∀y,y∈mrgN f a b out↔y∈out\/y∈a\/y∈b
 | 0,a,b,out,hf,_,_,ho,_,_=>by
  grind [mrgN]
 | f+1,[],[],out,_,_,_,ho,_,_=>(by grind [mrgN])
 | f+1,x::a,[],out,hf,V,W,ho,h1,h2=>by
  obtain⟨p1,p2,Z⟩:=qgr ho (x:=x) λz U y H=>h1 z U y (by rw[Ak.1 H];exact AV ..);obtain⟨r1,r2⟩:=qfy f a [] (qb8 out x) (by simpa using hf) (Bo.1 V).2 W p1 (.next V Z) (λz _ y H=>by cases H);refine⟨r1,λy=>?_⟩;rw[mrgN,r2,p2];simp[or_assoc]
 | f+1,[],x::b,out,hf,V,W,ho,h1,h2=>by
  obtain⟨p1,p2,Z⟩:=qgr ho (x:=x) λz U y H=>h2 z U y (by rw[Ak.1 H];exact AV ..);obtain⟨r1,r2⟩:=qfy f [] b (qb8 out x) (by simpa using hf) V (Bo.1 W).2 p1 (λz _ y H=>by cases H) (.next W Z);refine⟨r1,λy=>?_⟩;rw[mrgN,r2,p2];simp[or_assoc]
 | f+1,x::a,u::b,out,hf,V,W,ho,h1,h2=>by
  have hx:AheadT out [x]:=λz U y H=>h1 z U y (by simp_all)
  have hu:AheadT out [u]:=λz U y H=>h2 z U y (by simp_all)
  rw[mrgN]
  split
  ·rename_i ad
   obtain⟨p1,p2,Z⟩:=qgr ho hx;have ae:x=u\/LtT x u:=by
    rcases Int.lt_or_eq_of_le ad with h|h
    all_goals grind [qav,qau]
   have aa:AheadT (qb8 out x) (u::b):=λz U y H=>by
    rw[Z]at U;cases U
    rcases AB.1 H with rfl|H
    ·exact ae
    ·have:=(Bo.1 W).1 y H
     rcases ae with rfl|h
     ·exact .inr this
     ·exact .inr (h.trans this)
   obtain⟨r1,r2⟩:=qfy f a (u::b) (qb8 out x) (by grind) (Bo.1 V).2 W p1 (.next V Z) aa
   grind
  ·rename_i ad
   obtain⟨p1,p2,Z⟩:=qgr ho hu;have af:LtT u x:=by
    rcases LtT.tri x u with h|h|h
    all_goals simp_all[Int.le_of_lt,qav,Int.le_of_eq,qau]
   have aa:AheadT (qb8 out u) (x::a):=λz U y H=>by
    rw[Z]at U;cases U
    rcases AB.1 H with rfl|H
    ·exact .inr af
    ·exact .inr (af.trans ((Bo.1 V).1 y H))
   obtain⟨r1,r2⟩:=qfy f (x::a) b (qb8 out u) (by grind) V (Bo.1 W).2 p1 aa (.next W Z)
   grind
theorem qgf:∀(f:Nat) (l:List TM),l.length<=f->RiseT (tmsN f l)/\∀y,y∈tmsN f l↔y∈l
 | 0,l,h=>by
  have:l=[]:=(by grind)
  subst this;exact⟨List.Pairwise.nil,λy=>Iff.rfl⟩
 | f+1,l,h=>by
  rw[tmsN]
  split
  ·rename_i U
   refine⟨?_,λy=>Iff.rfl⟩
   match l,U with
   | [],_=>exact List.Pairwise.nil
   | [x],_=>exact CL _ _
  ·obtain⟨V,W⟩:=qgf f (l.take (l.length/2)) (by rw[Az];omega);obtain⟨b1,b2⟩:=qgf f (l.drop (l.length/2)) (by rw[zld];omega);obtain⟨r1,r2⟩:=qfy _ _ _ [] znr V b1 List.Pairwise.nil (λz H=>by cases H) (λz H=>by cases H);refine⟨r1,λy=>?_⟩;rw[r2,W,b2,<-Bc,AW];simp
theorem qib{H:Type}:∀{a b:List H},a.Pairwise (·≠·)->(∀x∈a,x∈b)->a.length<=b.length
 | [],_,_,_=>Ag _
 | x::a,b,h,U=>by
  obtain⟨b1,b2,rfl⟩:=List.append_of_mem (U x mh);have V:=Bo.1 h;have:=qib (a:=a) (b:=b1++b2) V.2 (by grind)
  grind
theorem q5b{H:Type}{a b:List H}(U:a.Pairwise (·≠·))(V:∀x∈a,x∈b)(W:b.length<=a.length):∀y∈b,y∈a:=by
 intro y Z;apply AD;intro hn;have:=qib (a:=y::a) (b:=b) (by grind [List.pairwise_cons]) (by grind)
 grind
theorem qhd{m:LB}:∀{i:Nat},(∀j,j<i->(dnF m j).2=0)->DSt m i (dSt m i).1 (dSt m i).2/\(0<i->i<=dN m->dGet m (i-1)=some (dSt m i).1)
 | 0,_=>⟨⟨Ag _,Oo⟩,Oo⟩
 | i+1,h=>by
  obtain⟨W,_⟩:=qhd (m:=m) (i:=i) λj hj=>h j Oo;have hi:=h i Oo;have hd:dSt m i=((dSt m i).1,(dSt m i).2):=rfl;have U:i%16=0->q7 m (i/16)=(dSt m i).2:=λZ=>AD λH=>by
   rw[qxu hd Z H]at hi;cases hi
  have he:(entG ((qd m).drop (dSt m i).2) (decide (i%16=0)) (dSt m i).1).2.2=0:=AD λH=>by
   rw[qacu hd rfl U H]at hi;exact H hi
  have V:=W.step U rfl he;exact⟨V,λ_ h3=>V.get Oo⟩
theorem qlr{m:LB}(h:(doE m).2=0)(Z:0<j)(hj:j<dN m){t:LB}(hs:dGet m (j-1)=some s)(ht:dGet m j=some t):s<t:=by
 obtain⟨_,_,W,_⟩:=qbs h;have V:=(qhd (m:=m) (i:=j) λk hk=>W k Oo).2 Z Oo;have U:=(qhd (m:=m) (i:=j+1) λk hk=>W k Oo).2 Oo Oo;rw[Bm]at U;rw[hs]at V;rw[ht]at U;cases V;cases U;have H:=W j hj;have hd:dSt m j=((dSt m j).1,(dSt m j).2):=rfl;have hp:j%16=0->q7 m (j/16)=(dSt m j).2:=λV=>AD λU=>by
  rw[qxu hd V U]at H;cases H
 have he:(entG ((qd m).drop (dSt m j).2) (decide (j%16=0)) (dSt m j).1).2.2=0:=(by grind [qacu])
 have hl:leL (dSt m (j+1)).1 (dSt m j).1≠true:=λh3=>by
  rw[qaix hd rfl hp he Z h3]at H;cases H
 grind [leL,qaf,qdy]
theorem qpo{m:LB}(h:(doE m).2=0):∀{d j:Nat} {s t:LB},j+1+d<dN m->dGet m j=some s->dGet m (j+1+d)=some t->s<t
 | 0,j,s,t,H,U,V=>qlr h Oo H (by simpa using U) V
 | d+1,j,s,t,H,U,V=>by
  obtain⟨_,_,Z,_⟩:=qbs h;have W:=(qhd (m:=m) (i:=j+1+d+1) λk hk=>Z k Oo).2 Oo Oo;have h5:=qpo h Oo U W;have h6:=qlr h (j:=j+1+(d+1)) Oo H (by exact W) V
  grind
theorem q81{m:LB}(h:(doE m).2=0)(hi:i<dN m)(V:j<dN m)(H:dGet m i=some s)(U:dGet m j=some s):i=j:=by
 rcases CG i j with g|g|g
 ·obtain⟨d,rfl⟩:∃d,j=i+1+d:=⟨j-(i+1),by omega⟩
  exact absurd (qpo h V H U) Js
 ·exact g
 ·obtain⟨d,rfl⟩:∃d,i=j+1+d:=⟨i-(j+1),by omega⟩
  exact absurd (qpo h hi U H) Js
theorem q0r{Q:Q4}(h:qbo Q=0)(V:k<3)(H:(Q.at k).kind=0):False:=by
 have W:canB k (Q.at k)=false:=by
  unfold canB
  rcases(show k=0\/k=1\/k=2 by omega)with rfl|rfl|rfl<;>simp[H]
 have e:qE k (Q.at k)=70:=by grind [qE]
 have U:∀x∈(List.range 4).map λk=>qE k (Q.at k),x=0:=by
  unfold qbo at h;generalize(List.range 4).map (λk=>qE k (Q.at k))=L at h;intro x Z
  induction L<;>grind [qdq]
 have:=U (qE k (Q.at k)) (by grind);omega
theorem qnk(h:i<vTot l 3):∃k j,k<3/\j<dN (sDict l k)/\i=vTot l k+j:=by
 have H:vTot l 3=vTot l 2+dN (sDict l 2):=rfl;have U:vTot l 2=vTot l 1+dN (sDict l 1):=rfl;have V:vTot l 1=vTot l 0+dN (sDict l 0):=rfl;have W:vTot l 0=0:=rfl
 by_cases Z:vTot l 2<=i
 ·exact⟨2,i-vTot l 2,by omega,by omega,by omega⟩
 ·by_cases g1:vTot l 1<=i
  ·exact⟨1,i-vTot l 1,by omega,by omega,by omega⟩
  ·exact⟨0,i,by omega,by omega,by omega⟩
section
variable {l:LB} {ts:List TM} (hV:VTm l 3 0 ts) (hd:∀k,k<3->(doE (sDict l k)).2=0)
include hV hd
theorem qt3{t:TM}(hi:ts[i]?=some t)(hj:ts[j]?=some t):i=j:=by
 have H:ts.length=vTot l 3:=hV.len;obtain⟨U,j1,a1,a2,a3⟩:=qnk (l:=l) (i:=i) (by grind);obtain⟨V,j2,b1,b2,b3⟩:=qnk (l:=l) (i:=j) (by grind);obtain⟨s1,t1,c1,_,W,Z⟩:=hV.at_ U j1 Oo;obtain⟨s2,t2,d1,_,d2,d3⟩:=hV.at_ V j2 Oo;rw[<-a3,hi]at Z;rw[<-b3,hj]at d3;cases Z;cases d3;have hk:U=V:=by have h1:=W.kind;have h2:=d2.kind;omega
 have hs:s1=s2:=W.entry.symm.trans d2.entry
 grind [q81]
theorem qwd:ts.Pairwise (·≠·):=by
 rw[Bw];intro i j hi U H e;have:=qt3 hV hd (i:=i) (j:=j) (zge hi) (by simp_all);omega
omit hd in
theorem q1n{t:TM}(h:t∈ts):t.kind≠0:=by
 have H:ts.length=vTot l 3:=hV.len;obtain⟨i,hi,rfl⟩:=List.getElem_of_mem h;obtain⟨V,W,a1,a2,Z⟩:=qnk (l:=l) (i:=i) Oo;obtain⟨s1,t1,_,_,c2,U⟩:=hV.at_ V W Oo;rw[<-Z,zge hi]at U;cases U;have:=c2.kind;omega
theorem qaby{U:List (Nat->Nat)}(hq:∀q∈U,(∀j,j<4->q j<=ts.length)/\qbo (sQ ts q)=0):
  (tmsN (trms (U.map (sQ ts))).length (trms (U.map (sQ ts)))).length=ts.length↔∀id,1<=id->id<=ts.length->∃q∈U,∃j,j<4/\q j=id:=by
 obtain⟨r1,r2⟩:=qgf _ (trms (U.map (sQ ts))) znr;have ad:(tmsN (trms (U.map (sQ ts))).length (trms (U.map (sQ ts)))).Pairwise (·≠·):=r1.imp λh=>h.ne
 have hT:∀q∈U,∀j,j<4->q j≠0->sT ts (q j)∈ts/\ts[q j-1]?=some (sT ts (q j)):=λq H j hj Z=>by
  grind [sT]
 have hk:∀q∈U,∀j,1<=j->j<4->q j≠0:=λq H j h1 h4 Z=>by
  have h2:=(hq q H).2;have h3:sT ts (q j)=zTM:=by grind [sT]
  exact q0r h2 (k:=j-1) Oo (by
   have:(sQ ts q).at (j-1)=sT ts (q j):=by
    rcases(show j=1\/j=2\/j=3 by omega)with rfl|rfl|rfl<;>rfl
   rw[this,h3];rfl)
 have W:∀t,t∈trms (U.map (sQ ts))↔∃q∈U,∃j,j<4/\q j≠0/\t=sT ts (q j):=λt=>by
  unfold trms;rw[DP]
  constructor
  ·rintro⟨x,hx,V⟩;obtain⟨Q,hQ,rfl⟩:=AF.1 hx;obtain⟨q,H,rfl⟩:=AF.1 hQ;unfold trQ at V
   rcases Bc.1 V with V|V
   ·simp only[AB,BQ,or_false]at V
    rcases V with rfl|rfl|rfl
    ·exact⟨q,H,1,by omega,hk q H 1 Oo Oo,rfl⟩
    ·exact⟨q,H,2,by omega,hk q H 2 Oo Oo,rfl⟩
    ·exact⟨q,H,3,by omega,hk q H 3 Oo Oo,rfl⟩
   ·split at V
    ·cases V
    ·rename_i hg
     rw[Ak]at V;refine⟨q,H,0,by omega,λZ=>hg ?_,V⟩;show(sT ts (q 0)).kind=0;rw[sT,Ad Z];rfl
  ·rintro⟨q,H,j,hj,Z,rfl⟩;refine⟨trQ (sQ ts q),(by grind),?_⟩;unfold trQ
   rcases(show j=0\/j=1\/j=2\/j=3 by omega)with rfl|rfl|rfl|rfl
   ·have hg:(sQ ts q).g.kind≠0:=q1n hV (hT q H 0 Oo Z).1;rw[Aa hg];exact Ac _ (Ak.2 rfl)
   all_goals grind [sQ]
 have aa:∀t∈tmsN (trms (U.map (sQ ts))).length (trms (U.map (sQ ts))),t∈ts:=(by grind)
 constructor
 ·intro he id h1 h2;have hid:ts[id-1]' Oo∈tmsN (trms (U.map (sQ ts))).length (trms (U.map (sQ ts))):=(by grind [q5b])
  obtain⟨q,H,j,hj,Z,e⟩:=(W _).1 ((r2 _).1 hid);refine⟨q,H,j,hj,?_⟩;have:=qt3 hV hd (hT q H j hj Z).2 (by rw[<-e];exact zge Oo);omega
 ·intro h;refine Nat.le_antisymm (qib ad aa) (qib (qwd hV hd) λt V=>?_);obtain⟨i,hi,rfl⟩:=List.getElem_of_mem V;obtain⟨q,H,j,hj,e⟩:=h (i+1) Oo Oo;refine(r2 _).2 ((W _).2 ⟨q,H,j,hj,by omega,?_⟩)
  grind
end
theorem qab5(h:(vcE l k).2=0):tVec l k=true/\(voE (qe l k)).2=0/\(0<vNum l k->bitN ((qe l k).drop 8) (vNum l k-1)=1):=by
 grind [tVec,qab4,qakq,qako]
theorem LvlV.of(h:(vcE l k).2=0):LvlV l k:=by
 obtain⟨H,U,V⟩:=qab5 h;simp only[tVec,AQ,decide_eq_true_eq]at H;exact⟨VecOk.voE H.1.1 U,H.1.2,H.2,V⟩
theorem qbq(h:(toE l).2=0):∀k,1<=k->k<=3->LvlV l k:=λk U V=>by
 obtain⟨_,H⟩:=qca h;obtain⟨_,_,W,_⟩:=qh6 (H k Oo)
 grind [LvlV.of]
def dTxt(m:LB)(i:Nat):LB:=(blk (qd m) (q7 m (i/16)) (i%16)).1
theorem qum{m:LB}(h:(doE m).2=0)(hi:i<dN m):(blk (qd m) (q7 m (i/16)) (i%16)).2.2=0/\dGet m i=some (dTxt m i):=by
 obtain⟨_,_,H,_⟩:=qbs h;have U:=(qhd (m:=m) (i:=i+1) λk V=>H k Oo).2 Oo Oo
 grind [dGet,dTxt]
theorem BEnd.full{m:LB}(h:(doE m).2=0)(k:Nat):BEnd m k (min 16 (dN m-16*k)):=by
 refine⟨λj H=>⟨by omega,?_⟩,by omega,λU V=>by omega⟩;have:=(qum h (i:=16*k+j) Oo).1
 grind
theorem q8b(m:LB)(k j:Nat)(H:j<16):bRow m k j=[ii (16*k+j:Nat),.string ⟨(dTxt m (16*k+j)).toArray⟩]:=by
 grind [bRow,dTxt]
theorem qqn(p:LB)(n H:Nat):opE p n H≠0↔PadB p (n*H):=by
 simp[opE,PadB]
def varL(n:Nat):LB:=if n<128 then[UInt8.ofNat n]else UInt8.ofNat (n%128+128)::varL (n/128)
termination_by n
decreasing_by omega
theorem qer{n:Nat}(h:n<128):varL n=[UInt8.ofNat n]:=by rw[varL,Ad h]
theorem qeq{n:Nat}(h:128<=n):varL n=UInt8.ofNat (n%128+128)::varL (n/128):=by grind [varL]
theorem qa0{n:Nat}(h:n<256):(UInt8.ofNat n).toNat=n:=by
 simp_all
theorem qab3(n:Nat):1<=(varL n).length:=by
 grind [qer,qeq]
theorem qbk(k:Nat):∀n,n<2 ^ (7*(k+1))->(varL n).length<=k+1:=by
 induction k<;>grind [qer,qeq]
theorem q0i:∀(n i a:Nat) (r:LB),n*2 ^ (7*i)<2 ^ 64->i<=9->(0<i->0<n)->qf3 i a (varL n++r)=(a+n*2 ^ (7*i),i+(varL n).length,0):=by
 intro n
 induction n using Nat.strongRecOn with
 | _ n H=>
  intro i a r U hi V;have W:i=9->n<2:=by grind
  by_cases h:n<128
  ·grind [qer,qdh,qa0]
  ·have e:n%128*2 ^ (7*i)+n/128*2 ^ (7*(i+1))=n*2 ^ (7*i):=by
    grind [Nat.mod_add_div]
   rw[qeq Oo,Bi,qdh,qa0 Oo,Aa Oo,Aa Oo]
   grind
theorem qa9{n:Nat}(h:n<2 ^ 64)(r:LB):numL (varL n++r)=(n,(varL n).length,0):=by
 grind [numL,q0i]
theorem qlo:∀a b:LB,comL a b<=a.length/\comL a b<=b.length/\a.take (comL a b)=b.take (comL a b)
 | [],[]=>⟨Ai _,Ai _,rfl⟩
 | [],_::_=>⟨Ag _,Ag _,rfl⟩
 | _::_,[]=>⟨Ag _,Ag _,rfl⟩
 | x::a,y::b=>by
  by_cases h:x=y
  ·subst h;obtain⟨H,U,V⟩:=qlo a b;rw[comL,Ad rfl];exact⟨by simpa using H,by simpa using U,by rw[BX,BX,V]⟩
  ·rw[comL,Aa h];exact⟨Ag _,Ag _,rfl⟩
def entE(first:Bool)(ahead s:LB):LB:=
 if first then varL s.length++s else varL (comL ahead s)++(varL (s.length-comL ahead s)++s.drop (comL ahead s))
theorem qn{H:Type}(a b:List H):(a++b).drop a.length=b:=by simp
theorem qr6{first:Bool}(r:LB)(W:s.length<=262144)(Z:ahead.length<=262144):entG (entE first ahead s++r) first ahead=(s,(entE first ahead s).length,0):=by
 cases first with
 | true=>
  have e:entE true ahead s=varL s.length++s:=by rfl
  grind [qa9,entG]
 | false=>
  have e:entE false ahead s=varL (comL ahead s)++(varL (s.length-comL ahead s)++s.drop (comL ahead s)):=by rfl
  obtain⟨c1,c2,H⟩:=qlo ahead s;rw[e,Aw,Aw];have U:=qa9 (n:=comL ahead s) Oo (varL (s.length-comL ahead s)++(s.drop (comL ahead s)++r));have V:=qa9 (n:=s.length-comL ahead s) Oo (s.drop (comL ahead s)++r);unfold entG;rw[Aa DL,U];dsimp only;rw[Aa Oo,qn,V];dsimp only;rw[Aa Oo,Aa Oo,Aa Oo,Aa Js,H,<-Ar,qn,qn]
  grind [zld,List.take_append_drop]
def tx(L:List LB)(i:Nat):LB:=L.getD i []
def arL(L:List LB):Nat->LB
 | 0=>[]
 | i+1=>arL L i++entE (decide (i%16=0)) (if i=0 then[]else tx L (i-1)) (tx L i)
theorem qpc(L:List LB){i:Nat}:∀{n:Nat},i<=n->∃r,arL L n=arL L i++r
 | 0,h=>⟨[],by simp_all⟩
 | n+1,h=>by
  by_cases e:i=n+1
  ·simp_all
  ·obtain⟨r,H⟩:=qpc L (i:=i) (n:=n) Oo
   grind [arL]
theorem qw5(L:List LB){n:Nat}(h:i<n):∃r,(arL L n).drop (arL L i).length=entE (decide (i%16=0)) (if i=0 then[]else tx L (i-1)) (tx L i)++r:=by
 obtain⟨r,H⟩:=qpc L (i:=i+1) (n:=n) h
 grind [arL]
end Go.Proofs.YtccmcfpmknpccaaGreatDoor
