/- Part 10 of 11. -/
import Derived.Test.YtacnkdagblbgfaaGreatDoorMS9
import Derived.Deep.MidRow
import Derived.ChangeKeysEq
namespace Go.Proofs.YtacnkdagblbgfaaGreatDoor
set_option maxHeartbeats 8000000
open Go.RowKit V
set_option maxHeartbeats 8000000
set_option maxRecDepth 100000
variable {E:List (Q4×EF)} {b c j k:Nat} {P:E4} {e ty:E6} {w w':Ez} {cs:EH} {J:ED->EC} {A:oA} {xo yo:Operand} {K:E9} {Y:ED}
def clsN(e:Q4×EF):Nat:=if e.2.length=2 then 1 else if e.2.head?=some 0 then 0 else 2
def clsE(j:Nat)(e:Q4×EF):Bool:=clsN e==j
def shC(E:List (Q4×EF))(k:Nat):EH:=#[ii (cntF (clsE 0) E k:Nat),ii (cntF (clsE 1) E k:Nat),ii (cntF (clsE 2) E k:Nat)]
def shV(E:List (Q4×EF)):E8:=.agg (shC E E.length)
theorem qmt(f:Q4×EF->Bool)(E:List (Q4×EF))(k:Nat):cntF f E k<=E.length:=AU (q9o f E k) (Cb _ _)
theorem qn2{e:Q4×EF}(h:E[k]?=some e)(j:Nat):cntF (clsE j) E (k+1)=cntF (clsE j) E k+if clsN e=j then 1 else 0:=by
 by_cases hf:clsN e=j
 ·rw[qj8 h (show clsE j e=true from CU.2 hf),Ad hf]
 ·rw[qn3 h (show clsE j e=false from Cm.2 hf),Aa hf];rfl
theorem qf6{e:Q4×EF}(h:E[k]?=some e)(hj:clsN e=j)(h3:j<3):(shC E k).setIfInBounds j (ii ((cntF (clsE j) E k:Nat)+1:Int))=shC E (k+1):=by
 unfold shC;rw[qn2 h 0,qn2 h 1,qn2 h 2,hj]
 match j,h3 with
 | 0,_=>rfl
 | 1,_=>rfl
 | 2,_=>rfl
theorem qfk{fn:Func}{a t n:Nat}{tmps:EH}{fr:Nat×Nat}(hr:fn.results=#[.cell a t])(hp:tmps.getD a undef=pp b)(hg:w.heap[b]?=some (.cells cs ty fr))(hu:P.underlying t=some (.array n e))(hi:(P.info? t).map (·.size)=some cs.size):(results fn tmps).run P w=.ok (.agg cs) w:=by
 have hl:=Go.run_loadVar_mid (P:=P) w b 0 t cs.toList _ (fun j v hv=>by
  rw[qa hg,Aw,<-hv,Cj]) hu rfl (by rw[hi,Array.length_toList])
 have e1:results fn tmps=(do let vs <-fn.results.mapM (resF tmps);pure (if h:vs.size=1 then vs[0]else .tuple vs)):=by
  unfold results;congr 1
 rw[e1,hr,Do];simp[resF,hp,asAddr,hl]
theorem qtd(cI:Carr J)(ea eb:PartE)(hes:∀e∈[ea,eb],qji e)(p:Q4)(hp:qa9 p)(E:List (Q4×EF))(hE:E=eacE [ea,eb] p)(hEl:E.length<=1000000)(hne:∀e∈E,e.2≠[])(hJ:∀X w,J X w->(∀e∈[ea,eb],PartAt w e)/\GlobS w)(xa xb:oA)(exa:ptE ea=.pointer xa)(exb:ptE eb=.pointer xb)(X:ED)(w:Ez)(h0:J X w):
  Gv EG 20 [.pointer xa,.pointer xb,qk p] w fun r w'=>r=shV E/\J X w':=by
 have ti:tsz EG 3=1:=by kernel_rfl
 refine gvW Jk Tryz.func20 rfl Tryz.ntmps20 rfl (zw ?_);refine NewV.carr cI h0 fun pb w1 h0=>zw ?_;refine NewV.carr cI h0 fun rb w2 h0=>zw ?_;refine NewV.carr cI h0 fun nb w3 h0=>zw ?_;refine NewV.carr cI h0 fun ab w4 h0=>zw ?_;refine LoadA.own (cI.get h0 (zmc (zmc (zmc mh)))) rfl (zw ?_);refine zcv (qk7 (some ⟨ab,0,none⟩) 2 2 p w4) ?_;rintro r w5 ⟨d1,d2,rfl,hm⟩;replace h0:=cI.call h0 hm;(conv=>whnf);obtain⟨M,eM⟩:∃M:ED,M=[(d2,Obj.cells (qd p).toArray 26),(d1,Obj.cells #[.slice (some ⟨ab,0,none⟩) 2 2] 28),(ab,Obj.cells #[.pointer xa,.pointer xb] 41)]++((rb,Obj.cells #[ii 0,ii 0,ii 0] 56)::(pb,Obj.cells (qd p).toArray 26)::X):=⟨_,rfl⟩
 have h0:J ([]++((nb,Obj.cells (shC E 0) 56)::M)) w5:=by
  rw[eM];exact cI.perm h0 (BO (l₁:=[(d2,_),(d1,_),(ab,_)]))
 have hin:∀{k} (X':ED),(d2,Obj.cells (qd p).toArray 26)∈X'++((nb,Obj.cells (shC E k) 56)::M)/\(d1,Obj.cells #[.slice (some ⟨ab,0,none⟩) 2 2] 28)∈X'++((nb,Obj.cells (shC E k) 56)::M)/\(ab,Obj.cells #[.pointer xa,.pointer xb] 41)∈X'++((nb,Obj.cells (shC E k) 56)::M):=fun X'=>by
  rw[eM];refine⟨?_,?_,?_⟩<;>simp
 have cJ:∀k,Carr (fun X' w'=>J (X'++((nb,Obj.cells (shC E k) 56)::M)) w'):=fun k=>cI.tail _
 have cX:∀(c:Code) (k:Nat),Carr (fun X' w'=>False/\J (X'++M) w'):=fun c k=>Carr.and (cI.tail M)
 refine qlk (m:=E.length) (lb:=[pp d1,pp d2]) rfl Jk Od
  (fun k X' w'=>J (X'++((nb,Obj.cells (shC E k) 56)::M)) w') (BE E fun k X' w'=>J (X'++((nb,Obj.cells (shC E k) 56)::M)) w') (fun c k X' w'=>False/\J (X'++M) w')
  (qod [ea,eb] hes (show 2<=1048576 by decide) p hp d1 d2 hE cJ cX (fun k X' w' hh=>⟨(hJ _ _ hh).1,(hJ _ _ hh).2,fun j u hu=>by rw[qa (cI.get hh (hin X').1),Aw,Ar];exact hu⟩) (fun X' w' hh=>⟨some ⟨ab,0,none⟩,2,by rw[qa (cI.get hh (hin X').2.1)];rfl,by
   show SlAt encV 1 w' _ [ptE ea,ptE eb];rw[exa,exb];exact qne (cI.get hh (hin X').2.2)⟩))
  BE.len cJ (BE.carr cJ) cX h0 ?_ ?_ ?_
 ·rintro l D ob ob' k r X' w6 hk ⟨Yn,⟨q,ns,vn,hEk,rfl,hRn⟩,hB⟩;obtain⟨An,cn,en⟩:=hRn.slice;subst en;(conv=>whnf);refine⟨rfl,(D,.deferred (some []))::X',⟨Yn,⟨q,ns,_,hEk,rfl,hRn⟩,hB⟩,fun w7 hB2=>?_⟩;clear hB hRn;obtain⟨Yn,⟨q',ns',v',hEk',hr,hRn⟩,hB⟩:=hB2;rw[hEk]at hEk';cases hEk'
  injection hr with _ hr
  injection hr with hr _
  subst hr;have hB:J ((Yn++(l,ob')::(D,.deferred (some []))::X')++((nb,Obj.cells (shC E k) 56)::M)) w7:=hB;have hgn:=cI.get hB (Ai _ mh);have hns:ns≠[]:=hne _ (zmg hEk);have hbd:∀j,cntF (clsE j) E k<=1000000:=fun j=>AU (qmt _ _ _) hEl
  have hb0:=hbd 0;have hb1:=hbd 1;have hb2:=hbd 2;clear hbd;conv=>whnf
  (repeat'(first|refine zC (fun _=>zw ?_) (fun _=>zw ?_)|(refine zJ 1 ?_;(conv=>whnf))))
  case' refine_1=>
   have hcl:clsN (q,ns)=1:=Ad (by dsimp only;omega);rw[ti];refine LoadV.own hgn rfl (zw ?_);refine zt ?_;refine zJ 1 ?_;(conv=>whnf);rw[ti];refine StoreV.carr cI hB (by show 0+1*1<3;omega) rfl ?_;clear hB hgn;intro w8 hB;have hB:J ((Yn++(l,ob')::(D,.deferred (some []))::X')++((nb,.cells ((shC E k).setIfInBounds 1 (ii ((cntF (clsE 1) E k:Nat)+1:Int))) 56)::M)) w8:=hB;rw[qf6 hEk hcl Od]at hB;(conv=>whnf);rw[Ak]at hB;exact cI.dropL hB
  obtain⟨m,ns,rfl⟩:∃m ns',ns=m::ns':=List.exists_cons_of_ne_nil hns;have hn2:¬(m::ns).length=2:=by omega
  obtain⟨gn,curn,eAn,eYn,_,hcv,_⟩:=V.RowX.put (k:=0) hRn (DJ _);have hcn:w7.cell? ⟨gn,0,none⟩=some (ii (m:Int)):=by
   rw[qa (cI.get hB (b:=gn) (o:=.cells curn 3) (by rw[eYn];simp)),hcv];rfl
  subst eAn;refine⟨⟨gn,0,0,rfl,rfl,DJ _,?_⟩⟩;rw[ti];(conv=>whnf);refine LoadV.of hcn (zw ?_)
  (repeat'(first|refine zC (fun _=>zw ?_) (fun _=>zw ?_)|(refine zJ 0 ?_;(conv=>whnf))|(refine zJ 2 ?_;(conv=>whnf))))
  case' refine_1=>
   have hcl:clsN (q,m::ns)=0:=by
    rw[clsN,Aa hn2,Ad (show(m::ns).head?=some 0 by rw[Dt,show m=0 by omega])]
   rw[ti];refine LoadV.own hgn rfl (zw ?_);refine zt ?_;refine zJ 0 ?_;(conv=>whnf);rw[ti];refine StoreV.carr cI hB (by show 0+0*1<3;omega) rfl ?_;clear hB hgn;intro w8 hB;have hB:J ((Yn++(l,ob')::(D,.deferred (some []))::X')++((nb,.cells ((shC E k).setIfInBounds 0 (ii ((cntF (clsE 0) E k:Nat)+1:Int))) 56)::M)) w8:=hB;rw[qf6 hEk hcl Od]at hB;(conv=>whnf);rw[Ak]at hB;exact cI.dropL hB
  have hcl:clsN (q,m::ns)=2:=by
   rw[clsN,Aa hn2,Aa (show ¬(m::ns).head?=some 0 by rw[Dt];intro h;injection h with h;omega)]
  rw[ti];refine LoadV.own hgn rfl (zw ?_);refine zt ?_;refine zJ 2 ?_;(conv=>whnf);rw[ti];refine StoreV.carr cI hB (by show 0+2*1<3;omega) rfl ?_;clear hB hgn;intro w8 hB;have hB:J ((Yn++(l,ob')::(D,.deferred (some []))::X')++((nb,.cells ((shC E k).setIfInBounds 2 (ii ((cntF (clsE 2) E k:Nat)+1:Int))) 56)::M)) w8:=hB;rw[qf6 hEk hcl Od]at hB;(conv=>whnf);rw[Ak]at hB;exact cI.dropL hB
 ·rintro D w6 hB;have hgn:=cI.get hB (Ai _ mh);(conv=>whnf);refine LoadA.own hgn rfl (zw ?_);rw[eM]at hB;have hB:J (((D,Obj.deferred (some []))::(nb,Obj.cells (shC E E.length) 56)::(d2,Obj.cells (qd p).toArray 26)::(d1,Obj.cells #[.slice (some ⟨ab,0,none⟩) 2 2] 28)::[(ab,Obj.cells #[.pointer xa,.pointer xb] 41)])++(rb,Obj.cells #[ii 0,ii 0,ii 0] 56)::((pb,Obj.cells (qd p).toArray 26)::X)) w6:=hB;refine StoreA.carr cI hB rfl (by simp[Value.oneCell']) fun w7 hB=>zw ?_;obtain⟨W,eW⟩:∃W:ED,W=[(nb,Obj.cells (shC E E.length) 56),(d2,Obj.cells (qd p).toArray 26),(d1,Obj.cells #[.slice (some ⟨ab,0,none⟩) 2 2] 28),(ab,Obj.cells #[.pointer xa,.pointer xb] 41),(rb,Obj.cells (shC E E.length) 56),(pb,Obj.cells (qd p).toArray 26)]:=⟨_,rfl⟩
  have hB:J ([(D,Obj.deferred (some []))]++(W++X)) w7:=by rw[eW];exact hB
  refine LeaveV.marks (J:=fun X' w'=>J (X'++(W++X)) w') (cI.tail _) ?_ (D:=D) (Ds:=[]) hB;intro w' h';have hgr:=cI.get h' (b:=rb) (o:=.cells (shC E E.length) 56) (by rw[eW];simp);(conv=>whnf);intro a ha;exact⟨_,qfk rfl (ha.get 6) hgr Tryz.underlying56 Jk,rfl,cI.dropL (A:=W) h'⟩
 ·rintro D c k w6 hk ⟨hF,_⟩;exact hF.elim
theorem qr8(da db:DsE)(p:Q4)(w:Ez)(hD:∀d∈[da,db],SlAt qd 16 w d.A d.qs)(htot:(([da,db].map (·.qs)).flatten).length<=20000)(hrise:∀d∈[da,db],RiseC cmpQ d.qs)(E:List (Q4×EF))(hE:E=eacD ([da,db].map (·.qs)) (fitQ p))(hEl:E.length<=1000000)(hne:∀e∈E,e.2≠[]):
  Gv EG 21 [.slice da.A da.qs.length da.c,.slice db.A db.qs.length db.c,qk p] w fun r w'=>r=shV E/\Ext w w':=by
 have t17:tsz EG 40=17:=by kernel_rfl
 have ti:tsz EG 3=1:=by kernel_rfl
 have cN:=qie w;refine ze Tryz.func21 Tryz.ntmps21 ?_;refine znm (Mem.nil w) fun pb w1 hm=>zw ?_;refine znm hm fun rb w2 hm=>zw ?_;refine znm hm fun ab w3 hm=>zw ?_;refine LoadA.own (hm.get (zmc (zmc (Ah.2 rfl)))) rfl (zw ?_);have hab:=hm.get mh;refine zcv (qin [da,db] (some ⟨ab,0,none⟩) 2 2 p w3 (qwy hab) rfl Od (fun d hd=>(hD d hd).ext hm.ext) htot hrise) ?_;rintro r w4 ⟨S,Y,hSX,hM,hSE⟩;rw[<-hE]at hSE;have hm:=hm.glue hM;obtain⟨Z,eZ⟩:∃Z:ED,Z=[(ab,Obj.cells #[.slice da.A da.qs.length da.c,.slice db.A db.qs.length db.c] 46),(rb,Obj.cells #[ii 0,ii 0,ii 0] 56),(pb,Obj.cells (qd p).toArray 26)]:=⟨_,rfl⟩
 have hm:Mem w w4 (Y++Z):=by rw[eZ];exact hm
 have hAt:∀{w'},(∀x∈Y,w'.heap[x.1]?=some x.2)->SeenAt w' r (E.map intP):=fun h=>by rw[<-hSE];exact hSX.at_ h
 obtain⟨B,d,er⟩:=(hAt (w':=w4) (fun x hx=>hM.get hx)).slice;subst er;have hil:(E.map intP).length=E.length:=AC ..;rw[hil]at hAt|-;clear hab hM hSX;(conv=>whnf);refine NewV.carr cN hm ?_;clear hm;intro nb w5 hm;have hm:Mem w w5 ((nb,.cells (shC E 0) 56)::(Y++Z)):=hm;(conv=>whnf);refine qj (fun i:Nat=>[(6,pp rb),(7,.slice B E.length d),(8,pp nb),(9,ii i)])
  (fun i w'=>i<=E.length/\Mem w w' ((nb,.cells (shC E i) 56)::(Y++Z))) (fun i=>E.length-i) 0
  fq ⟨Am _,hm⟩ ?_
 clear hm;rintro i w6 ρ' ⟨hi,hm⟩;have hgn:=hm.get mh;(conv=>whnf);refine zC (fun _=>zw ?_) (fun _=>zw ?_)
 case' refine_2=>
  obtain rfl:i=E.length:=by omega
  refine LoadA.own hgn rfl (zw ?_);have hm:Mem w w6 (((nb,Obj.cells (shC E E.length) 56)::(Y++[(ab,Obj.cells #[.slice da.A da.qs.length da.c,.slice db.A db.qs.length db.c] 46)]))++(rb,Obj.cells #[ii 0,ii 0,ii 0] 56)::[(pb,Obj.cells (qd p).toArray 26)]):=by rw[eZ]at hm;simpa using hm
  refine StoreA.carr cN hm rfl (by simp[Value.oneCell']) ?_;clear hm hgn;intro w7 hm;have hgr:=hm.get (Ai _ mh);(conv=>whnf);intro a ha;exact⟨_,qfk rfl (ha.get 6) hgr Tryz.underlying56 Jk,rfl,hm.ext⟩
 have hlt:i<E.length:=by omega
 obtain⟨q,ns,hqn⟩:∃q ns,E[i]?=some (q,ns):=⟨_,_,zge hlt⟩
 obtain⟨g,off,N,dn,rfl,hc,hdn,hsN⟩:=(hAt (fun x hx=>hm.get (zmc (Bb _ hx)))).elem (qs6 hqn);have hlen:(ns.map fun n:Nat=>(n:Int)).length=ns.length:=AC ..;rw[hlen]at hc;have hns:ns≠[]:=hne _ (zmg hqn);have hbd:∀j,cntF (clsE j) E i<=1000000:=fun j=>AU (qmt _ _ _) hEl
 have hb0:=hbd 0;have hb1:=hbd 1;have hb2:=hbd 2;clear hbd;refine⟨⟨g,off,i,rfl,by omega,by omega,?_⟩⟩;rw[t17];(conv=>whnf);refine LoadV.of (qt5 hc) (zw ?_)
 (repeat'(first|refine zC (fun _=>zw ?_) (fun _=>zw ?_)|(refine zJ 1 ?_;(conv=>whnf))))
 case' refine_1=>
  have hcl:clsN (q,ns)=1:=Ad (by dsimp only;omega);rw[ti];refine LoadV.own hgn rfl (zw ?_);refine zt ?_;refine zJ 1 ?_;(conv=>whnf);rw[ti];refine StoreV.carr (A:=[]) cN hm (by show 0+1*1<3;omega) rfl ?_;clear hm hgn;intro w7 hm;have hm:Mem w w7 ((nb,.cells ((shC E i).setIfInBounds 1 (ii ((cntF (clsE 1) E i:Nat)+1:Int))) 56)::(Y++Z)):=hm;rw[qf6 hqn hcl Od]at hm;refine zu ?_;exact⟨i+1,fq,⟨by omega,hm⟩,by omega⟩
 obtain⟨m,ns,rfl⟩:∃m ns',ns=m::ns':=List.exists_cons_of_ne_nil hns;have hn2:¬(m::ns).length=2:=by omega
 obtain⟨gn,on,rfl,hat⟩:=hsN.at_ Js;have hcm:=hat 0 (m:Int) rfl;refine⟨⟨g,off,i,rfl,by omega,by omega,?_⟩⟩;rw[t17];(conv=>whnf);refine LoadV.of (qt5 hc) (zw ?_);refine⟨⟨gn,on,0,rfl,rfl,DJ _,?_⟩⟩;rw[ti];(conv=>whnf);refine LoadV.cell0 hcm (zw ?_)
 (repeat'(first|refine zC (fun _=>zw ?_) (fun _=>zw ?_)|(refine zJ 0 ?_;(conv=>whnf))|(refine zJ 2 ?_;(conv=>whnf))))
 case' refine_1=>
  have hcl:clsN (q,m::ns)=0:=by
   rw[clsN,Aa hn2,Ad (show(m::ns).head?=some 0 by rw[Dt,show m=0 by omega])]
  rw[ti];refine LoadV.own hgn rfl (zw ?_);refine zt ?_;refine zJ 0 ?_;(conv=>whnf);rw[ti];refine StoreV.carr (A:=[]) cN hm (by show 0+0*1<3;omega) rfl ?_;clear hm hgn;intro w7 hm;have hm:Mem w w7 ((nb,.cells ((shC E i).setIfInBounds 0 (ii ((cntF (clsE 0) E i:Nat)+1:Int))) 56)::(Y++Z)):=hm;rw[qf6 hqn hcl Od]at hm;refine zu ?_;exact⟨i+1,fq,⟨by omega,hm⟩,by omega⟩
 have hcl:clsN (q,m::ns)=2:=by
  rw[clsN,Aa hn2,Aa (show ¬(m::ns).head?=some 0 by rw[Dt];intro h;injection h with h;omega)]
 rw[ti];refine LoadV.own hgn rfl (zw ?_);refine zt ?_;refine zJ 2 ?_;(conv=>whnf);rw[ti];refine StoreV.carr (A:=[]) cN hm (by show 0+2*1<3;omega) rfl ?_;clear hm hgn;intro w7 hm;have hm:Mem w w7 ((nb,.cells ((shC E i).setIfInBounds 2 (ii ((cntF (clsE 2) E i:Nat)+1:Int))) 56)::(Y++Z)):=hm;rw[qf6 hqn hcl Od]at hm;refine zu ?_;exact⟨i+1,fq,⟨by omega,hm⟩,by omega⟩
def sec1(e:Q4×EF):Bool := !(e.2==[1])
theorem qx0(xa xb:oA)(p:Q4)(w:Ez):Gv EG 17 [.pointer xa,.pointer xb,qk p] w fun r w'=>
  ∃b1 b2 b3,r=.func (.func 39) #[] #[pp b1,pp b2,pp b3]/\Mem w w' [(b3,.cells (qd p).toArray 26),(b2,.cells #[.pointer xb] 41),(b1,.cells #[.pointer xa] 41)]:=by
 refine ze Tryz.func17 Tryz.ntmps17 ?_;refine znm (Mem.nil w) fun b1 w1 hm=>zw ?_;refine znm hm fun b2 w2 hm=>zw ?_;refine znm hm fun b3 w3 hm=>zw ?_;exact⟨b1,b2,b3,rfl,hm⟩
theorem qx1(ea eb:PartE)(hes:∀e∈[ea,eb],qji e)(p:Q4)(hp:qa9 p)(b1 b2 b3:Nat)(E:List (Q4×EF))(hE:E=eacE [ea,eb] p):
  SeqC EG 39 [pp b1,pp b2,pp b3] (((E.filter one1).filter sec1).map q2n) (DiΦ ea eb p b1 b2 b3):=by
 intro y I Ix w cI cIx hI h0 hy;obtain⟨xa,exa⟩:=qi7 ea;obtain⟨xb,exb⟩:=qi7 eb;have hc1:∀{k X w},I k X w->w.cell? ⟨b1,0,none⟩=some (.pointer xa):=fun h=>by rw[<-exa];exact(hI _ _ _ h).c1
 have hc2:∀{k X w},I k X w->w.cell? ⟨b2,0,none⟩=some (.pointer xb):=fun h=>by rw[<-exb];exact(hI _ _ _ h).c2
 obtain⟨F,eF⟩:∃F,F=E.filter one1:=⟨_,rfl⟩
 rw[<-eF]at hy|-;rw[AC];refine gvW Jk Tryz.func39 rfl Tryz.ntmps39 rfl (zw ?_);refine NewV.carr (cI 0) h0 fun yb w1 h0=>zw ?_;refine LoadV.of (hc1 h0) (zw ?_);refine LoadV.of (hc2 h0) (zw ?_);refine LoadA.cells (hI _ _ _ h0).c3 rfl (zw ?_);refine zcv (qrd xa xb p w1) ?_;rintro r w2 ⟨d1,d2,d3,rfl,hm⟩;replace h0:=(cI 0).call h0 hm;(conv=>whnf);obtain⟨L,hL⟩:∃L:ED,L=[(d3,.cells (qd p).toArray 26),(d2,.cells #[.pointer xb] 41),(d1,.cells #[.pointer xa] 41),(yb,.cells #[.func (.yield y) #[] #[]] 91)]:=⟨_,rfl⟩
 have hJ:I (cntF sec1 F 0) ([]++L) w2:=by rw[hL];exact h0
 clear h0 hm;have hin:∀(X:ED),(d3,Obj.cells (qd p).toArray 26)∈X++L/\(d2,Obj.cells #[.pointer xb] 41)∈X++L/\(d1,Obj.cells #[.pointer xa] 41)∈X++L/\(yb,Obj.cells #[.func (.yield y) #[] #[]] 91)∈X++L:=fun X=>by
  rw[hL];refine⟨?_,?_,?_,?_⟩<;>simp
 have cJ:∀k,Carr (fun X w'=>I (cntF sec1 F k) (X++L) w'):=fun k=>(cI _).tail L
 have cX:∀(c:Code) (k:Nat),Carr (fun X w'=>(c=.ret/\cntF sec1 F k<(F.filter sec1).length)/\Ix (cntF sec1 F k) (X++L) w'):=fun c k=>Carr.and ((cIx _).tail L)
 have hs:=qre ea eb hes p hp d1 d2 d3 E hE;rw[<-eF]at hs;have hFl:(F.map qjl).length=F.length:=AC ..;refine qlk (m:=(F.map qjl).length) (lb:=[pp d1,pp d2,pp d3]) rfl Jk Od
  (fun k X w'=>I (cntF sec1 F k) (X++L) w') (fun k x X w'=>(F.map qjl)[k]?=some x/\I (cntF sec1 F k) (X++L) w') (fun c k X w'=>(c=.ret/\cntF sec1 F k<(F.filter sec1).length)/\Ix (cntF sec1 F k) (X++L) w')
  (fun L0 Lx=>hs.toX (I:=fun k X w=>I (cntF sec1 F k) ((X++L0)++L) w) (Ix:=fun k X w=>∃c,(c=.ret/\cntF sec1 F k<(F.filter sec1).length)/\Ix (cntF sec1 F k) ((X++Lx c)++L) w) (fun k=>(cJ k).tail L0) (fun k=>Carr.any fun c=>(cX c k).tail (Lx c)) (fun k X' w' hh=>
   ⟨(hI _ _ _ hh).P,(hI _ _ _ hh).G,by rw[qa ((cI _).get hh (hin _).2.2.1),exa];rfl,by rw[qa ((cI _).get hh (hin _).2.1),exb];rfl,fun j u hu=>by rw[qa ((cI _).get hh (hin _).1),Aw,Ar];exact hu⟩))
  (fun k r X' w' ⟨h1,_⟩=>by
   rw[Ao]at h1;cases h2:F[k]? with
   | none=>rw[h2]at h1;cases h1
   | some q=>rw[h2]at h1;cases h1;rfl) cJ (fun k r=>Carr.and (cJ k)) cX hJ ?_ ?_ ?_
 ·rintro l D ob ob' k r X w4 hk ⟨hr,hB⟩;obtain⟨q,ns,hEk,rfl⟩:∃q ns,F[k]?=some (q,ns)/\r=qjl (q,ns):=by
   rw[Ao]at hr;cases h2:F[k]? with
   | none=>rw[h2]at hr;cases hr
   | some q=>rw[h2]at hr;cases hr;exact⟨q.1,q.2,rfl,rfl⟩
  (conv=>whnf);refine NewV.carr (cJ k) hB fun qb w5 hB=>zw ?_;refine StoreA.carr (vs:=qd q) (cJ k) (A:=[]) hB rfl (qn q) fun w6 hB=>zw ?_;refine⟨rfl,(qb,.cells (qd q).toArray 26)::(D,.deferred (some []))::X,⟨hr,(cJ k).perm hB (List.Perm.swap _ _ _)⟩,fun w7 hB2=>?_⟩;clear hB;obtain⟨_,hB⟩:=hB2;have hB:I (cntF sec1 F k) (((l,ob')::(qb,.cells (qd q).toArray 26)::(D,.deferred (some []))::X)++L) w7:=hB;have hq:=(cI _).get hB (b:=qb) (o:=.cells (qd q).toArray 26) Js;obtain⟨b,eb'⟩:∃b,b=(ns==[1]):=⟨_,rfl⟩
  rw[<-eb'];cases b
  case true=>
   have hf:sec1 (q,ns)=false:=by rw[sec1,<-eb'];rfl
   refine zu ?_;rw[qn3 hEk hf];exact(cI _).dropM (A:=[(l,ob')]) hB
  case false=>
   have hf:sec1 (q,ns)=true:=by rw[sec1,<-eb'];rfl
   have hat:((F.filter sec1).map q2n)[cntF sec1 F k]?=some [qk q]:=by rw[Ao,qig hEk hf];rfl
   have hlt:cntF sec1 F k<(F.filter sec1).length:=(Ae.1 (qig hEk hf)).1;refine zu ?_;refine LoadV.carr (cI _) hB (hin _).2.2.2 rfl (zu ?_);refine LoadA.own hq rfl (zu ?_);refine YieldV.mono (hy _ _ _ w7 hat hB) ?_;clear hB hq;rintro v w8 (⟨rfl,hJ⟩|⟨rfl,hX⟩)
   ·refine zu ?_;rw[qj8 hEk hf];exact(cI _).dropM (A:=[(l,ob')]) hJ
   ·refine zu ?_;exact⟨⟨rfl,hlt⟩,(cIx _).dropM (A:=[(l,ob')]) hX⟩
 ·rintro D w7 hJ;rw[hFl,qn1]at hJ;(conv=>whnf);refine LeaveV.marks (J:=fun X w'=>I (F.filter sec1).length X w') (cI _) ?_ (D:=D) (Ds:=[]) ((cI _).dropL ((cI _).perm hJ AE));intro w' h';(conv=>whnf);exact .inl h'
 ·rintro D c' k w7 hk ⟨⟨rfl,hlt⟩,hX⟩;(conv=>whnf);refine LeaveV.marks (J:=fun X w'=>Ix (cntF sec1 F k) X w') (cIx _) ?_ (D:=D) (Ds:=[]) ((cIx _).dropL ((cIx _).perm hX AE));intro w' h';(conv=>whnf);exact .inr ⟨_,hlt,h'⟩
theorem q0e{es:List PartE}{Ls:List (List Q4)}{p:Q4}(hes:es.map (·.qs)=Ls)(hrise:∀L∈Ls,RiseC cmpQ L):eacE es p=eacD Ls (fitQ p):=by
 subst hes;have h1:=q47 hrise (fitQ p) znr;rw[DH]at h1;rw[<-h1];rfl
theorem q02{q:Q4}:∀{Ls:List (List Q4)} {i:Nat},q∈Ls.flatten->idxC q Ls i≠[]
 | [],_,h=>by cases h
 | L::Ls,i,h=>by
  rw[idxC]
  split
  ·simp
  ·next hn=>
   rw[Cv,Ba]at h;exact q02 (h.resolve_left hn)
theorem qs5{q:Q4}:∀{Ls:List (List Q4)} {i j:Nat},j∈idxC q Ls i->j<i+Ls.length
 | [],_,_,h=>by cases h
 | L::Ls,i,j,h=>by
  rw[idxC]at h;rw[As]
  split at h
  ·rcases AD.1 h with rfl|h
   ·omega
   ·have:=qs5 h;omega
  ·have:=qs5 h;omega
theorem qvq{P:List (List Q4)}{f:Q4->Bool}{e:Q4×EF}(h:e∈eacD P f):e.2≠[]/\∀j∈e.2,j<P.length:=by
 obtain⟨q,hq,rfl⟩:=AY.1 h;have h1:=((qh3 ordQ P.flatten.length P.flatten znr).2 q).1 (B0.1 hq).1;exact⟨q02 h1,fun j hj=>by have:=qs5 hj;omega⟩
theorem qvp{P:List (List Q4)}{f:Q4->Bool}:(eacD P f).length<=P.flatten.length:=by
 have h1:=qje cmpQ P.flatten.length P.flatten;have h2:=Cb f (srtC cmpQ P.flatten.length P.flatten);rw[eacD,AC];omega
theorem qi6{P:List (List Q4)}{f:Q4->Bool}(hP:P.length=2){e:Q4×EF}(h:e∈(eacD P f).filter one1):e.2=[0]\/e.2=[1]:=by
 obtain⟨h1,h2⟩:=B0.1 h;obtain⟨_,h4⟩:=qvq h1;obtain⟨q,ns⟩:=e
 match ns,h2,h4 with
 | [m],_,h4=>
  have h5:=h4 m (Ah.2 rfl);rw[hP]at h5;obtain rfl|rfl:m=0\/m=1:=by omega
  ·exact .inl rfl
  ·exact .inr rfl
 | [],h2,_=>cases h2
 | _::_::_,h2,_=>simp[one1]at h2
def hd0(e:Q4×EF):Bool:=e.2.head?==some 0
theorem q95{P:List (List Q4)}{f:Q4->Bool}(hP:P.length=2):((eacD P f).filter one1).filter hd0=((eacD P f).filter one1).filter sec1:=
 DX fun e he=>by
  rcases qi6 hP he with h|h<;>rw[hd0,sec1,h]<;>rfl
def difP(e:Q4×EF):Q4×Bool:=(e.1,e.2==[1])
theorem qvm{P:List (List Q4)}{f:Q4->Bool}(hP:P.length=2):(((eacD P f).filter one1).map difP).map tP=((eacD P f).filter one1).map intP:=by
 rw[DH];refine DN fun e he=>?_
 rcases qi6 hP he with h|h<;>simp[difP,tP,intP,h]
theorem qw3:∀{ds:List DsE} {i:Nat} {d:DsE},ds[i]?=some d->d.qs.length<=totD ds
 | [],i,d,h=>by simp at h
 | x::ds,0,d,h=>by
  simp at h;subst h;simp only[totD,AO,Dj];omega
 | x::ds,i+1,d,h=>by
  have:=qw3 (ds:=ds) (i:=i) (d:=d) (by simpa using h);simp only[totD,AO,Dj]at this|-;omega
theorem qw4:∀{ds:List DsE} {i:Nat} {d0 d1:DsE},ds[i]?=some d0->ds[i+1]?=some d1->d0.qs.length+d1.qs.length<=totD ds
 | [],i,d0,d1,h,_=>by simp at h
 | x::ds,0,d0,d1,h,h'=>by
  simp at h;subst h;have:=qw3 (ds:=ds) (i:=0) (d:=d1) (by simpa using h');simp only[totD,AO,Dj]at this|-;omega
 | x::ds,i+1,d0,d1,h,h'=>by
  have:=qw4 (ds:=ds) (i:=i) (d0:=d0) (d1:=d1) (by simpa using h) (by simpa using h');simp only[totD,AO,Dj]at this|-;omega
theorem qh2{α:Type}{enc:α->EE}{size:Nat}{l:List α}(h:SlAt enc size w A l)(m:Nat):SlAt enc size w A (l.take m):=
 ⟨fun hn=>by
  obtain⟨b,off,e,hat⟩:=h.at_ (fun e=>hn (by rw[e,List.take_nil]));refine⟨b,off,e,fun j x hj=>hat j x ?_⟩;rw[Bc]at hj
  split at hj
  ·exact hj
  ·cases hj⟩
theorem q94:EG.eqGuardType EG.depth 56=false:=by kernel_rfl
theorem qmk(d:Nat)(a b c:Int)(w:Ez):(Op.equalIn (d+2) 56 (.agg #[ii a,ii b,ii c]) (.agg #[ii a,ii b,ii c])).run EG w=.ok true w:=by
 have u3:=Tryz.underlying3;have a3:=Tryz.isAgg3;have z3:=Tryz.sizeOf3;have c3:EG.cellsOf 3=1:=by kernel_rfl
 rw[run_equalIn_array w (d+1) _ _ Tryz.underlying56 inI,c3];simp only[DB,List.range_zero,Br,BL,Op.eqItems]
 go_simp
theorem V.RunV.neqSh(h:K (.bool false) w):
  RunV EG (do eqGuard .neq 56 xo yo (shV E) (shV E);binOp .neq 56 (shV E) (shV E)) w K:=by
 refine⟨_,w,?_,h⟩;rw[Sem.run_bind,shV,shC,run_eqGuard_agg w .neq _ xo yo _ _ q94,Result.andThen_ok];have e:=qmk 9998 (cntF (clsE 0) E E.length:Nat) (cntF (clsE 1) E E.length:Nat) (cntF (clsE 2) E E.length:Nat) w;rw[run_neq_struct,e];rfl
theorem qvy:∀ds:List DsE,(ds.map (·.qs)).flatten.length<=totD ds
 | []=>Am _
 | d::ds=>by
  have ih:=qvy ds;simp only[totD,AO,Cv,zla,Dj]at ih|-;omega
theorem SeenAt.take{E:List (Q4×List Int)}(h:SeenAt w (.slice A E.length c) E)(m:Nat)(hm:m<=E.length):SeenAt w (.slice A m c) (E.take m):=by
 obtain⟨A',c',e,h2,h3⟩:=h
 injection e with e1 _ e2
 subst e1 e2;have hl:(E.take m).length=m:=by rw[AG];omega
 refine⟨A,c,by rw[hl],by omega,fun hn=>?_⟩;obtain⟨g,off,h4,h5⟩:=h3 (fun e=>hn (by rw[e,List.take_nil]));refine⟨g,off,h4,fun i q zs hi=>h5 i q zs ?_⟩;rw[Bc]at hi
 split at hi
 ·exact hi
 ·cases hi
theorem AlΦ.ext{es:List PartE}{p:Q4}{n:Int}{b1 b2 b3:Nat}(h:AlΦ es p n A c b1 b2 b3 w)(he:Ext w w'):AlΦ es p n A c b1 b2 b3 w':=
 ⟨fun e hm=>(h.P e hm).ext he,h.G.ext he,he.cell h.c1,h.S.ext he,CellsAt.ext h.c2 he,he.cell h.c3⟩
theorem DiΦ.ext{ea eb:PartE}{p:Q4}{b1 b2 b3:Nat}(h:DiΦ ea eb p b1 b2 b3 w)(he:Ext w w'):DiΦ ea eb p b1 b2 b3 w':=
 ⟨fun e hm=>(h.P e hm).ext he,h.G.ext he,he.cell h.c1,he.cell h.c2,CellsAt.ext h.c3 he⟩
theorem qif{q:Q4}{t:E6}{fr:Nat×Nat}(h:w.heap[b]?=some (.cells (qd q).toArray t fr)):CellsAt w b 0 (qd q):=fun k u hu=>by
 rw[qa h,Aw,Ar];exact hu
theorem qRowX.at_{n:Nat}{Q:List Q4}(h:qRowX (.slice A n c) Q Y)(hY:∀x∈Y,w.heap[x.1]?=some x.2):n=Q.length/\Q.length<=c/\SlAt qd 16 w A Q:=by
 obtain⟨A',c',e⟩:=h.slice
 injection e with e1 e2 e3
 subst e1 e2 e3;obtain⟨h1,h2⟩:=qb5 (enc:=qd) qa7 (h.own hY) rfl;exact⟨rfl,h2,h1⟩
theorem qRowX.slice{v:E8}{Q:List Q4}(h:qRowX v Q Y):∃A c,v=.slice A Q.length c:=V.RowX.slice h
theorem q1y(F:List (Q4×EF)):(F.map Prod.fst).map qR1=F.map q2n:=by rw[DH];rfl
theorem qadp(F:List (Q4×EF)):(F.map difP).map tR=F.map qjl:=by rw[DH];rfl
theorem sl0(d sz:Nat)(B:oA):(if d=0 then B else B.map (·.add (0*sz)))=B:=by
 rcases B with _|a
 ·split<;>rfl
 ·split
  ·rfl
  ·rw[Ex];simp[Addr.add]
theorem qo6(ds:List DsE)(A:oA)(n c:Nat)(p:Q4)(k most:Int)(w:Ez)(hS:SlAt encD 1 w A ds)(hn:ds.length=n)(hb:n<=140737488355328)(hD:∀d∈ds,SlAt qd 16 w d.A d.qs)(hl:∀d∈ds,d.qs.length<=140737488355328)(hq:∀d∈ds,∀q∈d.qs,qa9 q)(hp:qa9 p)(_:InR .i64 k)(hmo:InR .i64 most)(hGS:GlobS w)(hT:CellsAt w 1 0 qjy)(hG:ErrTyp w):
  Gv EG 4 [.slice A n c,qk p,ii k,ii most] w fun r w'=>r=.bool true/\Ext w w':=by
 subst hn;have t16:tsz EG 26=16:=by kernel_rfl
 have t17:tsz EG 40=17:=by kernel_rfl
 have t1:tsz EG 46=1:=by kernel_rfl
 have tx:tsz EG 41=1:=by kernel_rfl
 have ti:tsz EG 3=1:=by kernel_rfl
 refine gvW Jk Tryz.func4 rfl Tryz.ntmps4 rfl (zw ?_);refine znm (Mem.nil w) fun pb w1 hm=>zw ?_;refine zcv (q0k ds A ds.length c w1 (hS.ext hm.ext) rfl hb hl) ?_;rintro r w2 ⟨⟨b,rfl,hfew⟩,he⟩;replace hm:=hm.call he;clear he;cases b
 ·refine zu ?_;exact⟨rfl,hm.ext⟩
 obtain⟨hn60,htot⟩:=hfew rfl;refine zu ?_;refine zcv (qyb ds A ds.length c w2 (hS.ext hm.ext) rfl hn60 (fun d hd=>(hD d hd).ext hm.ext) hl hq (CellsAt.ext hT hm.ext) (hG.ext hm.ext)) ?_;rintro r w3 (⟨rfl,he⟩|⟨es,A4,c4,rfl,hes,hel,hex,hrow,he⟩)
 ·replace hm:=hm.call he;refine zu ?_;exact⟨rfl,hm.ext⟩
 replace hm:=hm.call he;clear he;have hesl:es.length=ds.length:=by
  have:=Af List.length hes
  rwa[AC,AC]at this
 have hptl:(es.map ptE).length=es.length:=AC ..;have hrV:w3.ownsRow 0 41 1 (.slice A4 es.length c4) es.length ((es.map ptE).map encV).flatten:=by rw[qqr];exact hrow
 obtain⟨hS4,_⟩:=qb5 (enc:=encV) (fun _=>rfl) hrV hptl;have hrise:∀e∈es,RiseC cmpQ e.qs:=fun e he=>by
  rcases(hel e he).1 with h0|h0
  ·show RiseC cmpQ e.qs;rw[h0];exact List.Pairwise.nil
  ·exact(qdh h0).2.2.imp fun h=>qcv.2 h
 have hrL:∀L∈ds.map (·.qs),RiseC cmpQ L:=fun L hL=>by
  rw[<-hes]at hL;obtain⟨e,he,rfl⟩:=AY.1 hL;exact hrise e he
 obtain⟨E,eE⟩:∃E,E=eacD (ds.map (·.qs)) (fitQ p):=⟨_,rfl⟩
 have hEE:E=eacE es p:=by rw[eE,q0e hes hrL]
 have hfl:=qvy ds;have hEl:E.length<=20000:=by
  have h1:=qvp (P:=ds.map (·.qs)) (f:=fitQ p);rw[<-eE]at h1;omega
 have hPx:∀e∈es,PartAt w3 e:=fun e he=>(hex e he).at_
 have hG3:GlobS w3:=hGS.ext hm.ext;have hgp:=hm.get (Ah.2 rfl);have hS3:=hS.ext hm.ext;have hD3:∀d∈ds,SlAt qd 16 w3 d.A d.qs:=fun d hd=>(hD d hd).ext hm.ext
 have hx3:=hm.ext;clear hm hrow hrV hex hS hD;refine zu ?_;refine Fall.max2 rfl rfl rfl ?_;intro mx hmx;have hmx64:InR .i64 mx:=⟨by have:=hmo.1;omega,by have:=hmo.2;omega⟩
 (conv=>whnf);refine LoadA.own hgp rfl (zw ?_);refine zcv (qrb A4 es.length c4 p k w3) ?_;rintro r w4 ⟨b1,b2,b3,rfl,hm4⟩;have hΦ4:AlΦ es p k A4 c4 b1 b2 b3 w4:=⟨fun e he=>(hPx e he).ext hm4.ext,hG3.ext hm4.ext,by rw[qa (hm4.get (zmc (zmc (Ah.2 rfl))))];rfl,hS4.ext hm4.ext,qif (hm4.get (zmc mh)),by rw[qa (hm4.get mh)];rfl⟩
 have hx4:=hm4.ext;clear hm4;(conv=>whnf);refine LoadA.own (hx4.get hgp) rfl (zw ?_);refine zcv (qnv ds A ds.length c p k w4 (hS3.ext hx4) rfl hn60 (fun d hd=>(hD3 d hd).ext hx4) Oo (fun d hd=>hrL d.qs (AY.2 ⟨d,hd,rfl⟩)) E eE Oo) ?_;rintro r w5 ⟨Y5,hQ5,hm5⟩;obtain⟨B5,d5,er⟩:=hQ5.slice;subst er;obtain⟨Q5,eQ5⟩:∃Q5,Q5=(E.filter (atl k)).map Prod.fst:=⟨_,rfl⟩
 rw[<-eQ5]at hQ5|-;have hQ5l:Q5.length<=20000:=by
  rw[eQ5,AC];exact AU (Cb _ _) hEl
 obtain⟨_,hc5,hS5⟩:=hQ5.at_ (w:=w5) (fun x hx=>hm5.get hx);(conv=>whnf);refine V.Fall.min2 rfl rfl rfl ?_;intro mn hmn;(conv=>whnf);obtain⟨k5,ek5⟩:∃k5:Nat,k5=min Q5.length mx.toNat:=⟨_,rfl⟩
 obtain rfl:mn=(k5:Int):=by omega
 refine V.SliceV.to 0 k5 d5 rfl rfl rfl (Am _) Oo znr (fun h=>by cases h) ?_;rw[t16,sl0,D7,D7];have hk5:(Q5.take mx.toNat).length=k5:=by rw[AG];omega
 have hs5:=qrc es (fun e he=>(hel e he).2) Oo p hp k A4 c4 b1 b2 b3 E hEE;rw[<-q1y,<-eQ5]at hs5;have hx5:=hm5.ext;have hΦ:∀X w',Mem w5 w' X->AlΦ es p k A4 c4 b1 b2 b3 w':=fun X w' h=>hΦ4.ext (hx5.trans h.ext)
 (conv=>whnf);refine zcv (qek (qie w5) 38 Jk b1 b2 b3 Q5 Oo hs5 hΦ mx hmx64 [] w5 (Mem.nil w5)) ?_;rintro r w6 ⟨Y6,hQ6,hm6⟩;rw[AI]at hm6;obtain⟨B6,d6,er⟩:=hQ6.slice;subst er;obtain⟨_,_,hS6⟩:=hQ6.at_ (w:=w6) (fun x hx=>hm6.get hx);have hsq:=qcf (Q5.take mx.toNat) B6 B5 d6 d5 w6 hS6 ((qh2 hS5 _).ext hm6.ext) Oo;rw[hk5]at hsq|-;(conv=>whnf);refine zcv hsq ?_;rintro r w7 ⟨rfl,he7⟩;have hx7:=hm6.ext.trans he7;clear hsq hS6 hm6 hQ6 he7;refine zu ?_;refine zcv (qek (qie w5) 38 Jk b1 b2 b3 Q5 Oo hs5 hΦ mx hmx64 [] w7 ((Mem.nil w5).call hx7)) ?_;rintro r w8 ⟨Y8,hQ8,hm8⟩;rw[AI]at hm8;obtain⟨B8,d8,er⟩:=hQ8.slice;subst er;obtain⟨_,_,hS8⟩:=hQ8.at_ (w:=w8) (fun x hx=>hm8.get hx);have hsq:=qcf (Q5.take mx.toNat) B8 B5 d8 d5 w8 hS8 ((qh2 hS5 _).ext hm8.ext) Oo;rw[hk5]at hsq|-;refine zu ?_;refine zcv hsq ?_;rintro r w9 ⟨rfl,he9⟩;have hx9:=hx4.trans (hx5.trans (hm8.ext.trans he9));clear hsq hS8 hm8 hQ8 he9 hx7 hΦ hs5 hS5 hQ5 hm5 hΦ4;refine zu ?_;refine qtc (fun i:Nat=>[(0,.slice A ds.length c),(3,ii mx),(5,pp pb),(10,.slice A4 es.length c4),(15,ii i)]) (fun i w'=>1<=i/\i<=es.length+1/\Ext w3 w') (fun i=>es.length+1-i) 1
  fq ⟨Aq _,by omega,hx9⟩ ?_
 clear hx9;rintro i w10 ρ1 ⟨h1,hi,hx10⟩;(conv=>whnf);refine zC (fun _=>zw ?_) (fun _=>zw ?_)
 case' refine_2=>
  exact⟨rfl,hx3.trans hx10⟩
 case' refine_1=>
  obtain⟨j,rfl⟩:∃j,i=j+1:=⟨i-1,by omega⟩
  have hj1:j+1<es.length:=by omega
  obtain⟨d0,hd0i⟩:∃d,ds[j]?=some d:=⟨_,zge Oo⟩
  obtain⟨d1,hd1i⟩:∃d,ds[j+1]?=some d:=⟨_,zge Oo⟩
  obtain⟨e0,he0i⟩:∃e,es[j]?=some e:=⟨_,zge Oo⟩
  obtain⟨e1,he1i⟩:∃e,es[j+1]?=some e:=⟨_,zge Oo⟩
  have hq0:e0.qs=d0.qs:=by
   have h:=Af (fun l=>l[j]?) hes;simp only[Ao,hd0i,he0i,B4,Bp]at h;exact h
  have hq1:e1.qs=d1.qs:=by
   have h:=Af (fun l=>l[j+1]?) hes;simp only[Ao,hd1i,he1i,B4,Bp]at h;exact h
  have hdm:∀d∈[d0,d1],d∈ds:=fun d hd=>by
   rcases AD.1 hd with rfl|hd
   ·exact zmg hd0i
   ·rw[Ah.1 hd];exact zmg hd1i
  have hem:∀e∈[e0,e1],e∈es:=fun e he=>by
   rcases AD.1 he with rfl|he
   ·exact zmg he0i
   ·rw[Ah.1 he];exact zmg he1i
  have htw:(([d0,d1].map (·.qs)).flatten).length<=20000:=by
   have h:=qw4 hd0i hd1i;simp only[AO,BM,Cv,List.flatten_nil,zla,BP];omega
  have hr2:∀d∈[d0,d1],RiseC cmpQ d.qs:=fun d hd=>hrL d.qs (AY.2 ⟨d,hdm d hd,rfl⟩)
  obtain⟨E2,eE2⟩:∃E2,E2=eacD ([d0,d1].map (·.qs)) (fitQ p):=⟨_,rfl⟩
  have hP2:([d0,d1].map (·.qs)).length=2:=rfl;have hEE2:E2=eacE [e0,e1] p:=by
   rw[eE2,q0e (Ls:=[d0,d1].map (·.qs)) (by simp[hq0,hq1]) (fun L hL=>by
    obtain⟨d,hd,rfl⟩:=AY.1 hL;exact hr2 d hd)]
  have hE2l:E2.length<=20000:=by
   have h:=qvp (P:=[d0,d1].map (·.qs)) (f:=fitQ p);rw[<-eE2]at h;omega
  have hE2n:∀e∈E2,e.2≠[]:=fun e he=>by
   rw[eE2]at he;exact(qvq he).1
  obtain⟨F,eF⟩:∃F,F=E2.filter one1:=⟨_,rfl⟩
  have hFl:F.length<=20000:=by rw[eF];exact AU (Cb _ _) hE2l
  have hFc:∀e∈F,e.2=[0]\/e.2=[1]:=fun e he=>by
   rw[eF,eE2]at he;exact qi6 hP2 he
  obtain⟨gA,oA,eA,hatA⟩:=hS3.at_ (by intro h;rw[h]at hd0i;cases hd0i);have hcd0:=hatA j d0 hd0i;have hcd1:=hatA (j+1) d1 hd1i;subst eA;obtain⟨xa,exa⟩:=qi7 e0;obtain⟨xb,exb⟩:=qi7 e1;have hne4:es.map ptE≠[]:=by
   intro h;rw[h]at hptl;have h2:0=es.length:=hptl;omega
  obtain⟨g4,o4,eA4,hat4⟩:=hS4.at_ hne4;have hce0:=hat4 j (ptE e0) (by rw[Ao,he0i];rfl);have hce1:=hat4 (j+1) (ptE e1) (by rw[Ao,he1i];rfl);rw[exa]at hce0;rw[exb]at hce1;subst eA4;have hd3:∀wd,Ext w10.drew wd->Ext w3 wd:=fun wd hd=>hx10.trans ((Ext.refl w10).drew.trans hd)
  refine DrawW.tail 10 Jk Jk (.inl rfl) (AnyV.free Jk ?_);(conv=>whnf);(iterate 3 (refine zd ?_));refine zsd (.pointer (some ⟨gA,oA+j*1,none⟩)) (fun wd hd=>zw ?_) (zw ?_)
  ·refine⟨⟨gA,oA,j,rfl,by omega,by omega,?_⟩⟩;rw[t1];(conv=>whnf);exact xq
  refine zsd (.slice d0.A d0.qs.length d0.c) (fun wd hd=>zw ?_) (zw ?_)
  ·refine LoadV.cell0 (CellsAt.ext hcd0 (hd3 wd hd)) (zw ?_);exact xq
  refine zd ?_;refine zd ?_;refine zsd (.pointer (some ⟨gA,oA+(j+1)*1,none⟩)) (fun wd hd=>zw ?_) (zw ?_)
  ·refine⟨⟨gA,oA,j+1,rfl,by omega,by omega,?_⟩⟩;rw[t1];(conv=>whnf);exact xq
  refine zsd (.slice d1.A d1.qs.length d1.c) (fun wd hd=>zw ?_) (zw ?_)
  ·refine LoadV.cell0 (CellsAt.ext hcd1 (hd3 wd hd)) (zw ?_);exact xq
  refine zsd (qk p) (fun wd hd=>zw ?_) (zw ?_)
  ·refine LoadA.own ((hd3 wd hd).get hgp) rfl (zw ?_);exact xq
  intro w11 he11;have hx11:=hd3 w11 he11;(conv=>whnf);refine zcv (qsn d0 d1 p w11 (fun d hd=>(hD3 d (hdm d hd)).ext hx11) htw hr2 E2 eE2 Oo) ?_;rintro r w12 ⟨S,Y12,hSX,hm12,hSE⟩;rw[<-eF]at hSE;have hAt:∀{w'},Ext w12 w'->SeenAt w' r (F.map intP):=fun he=>by
   rw[<-hSE];exact(hSX.at_ (fun x hx=>hm12.get hx)).ext he
  obtain⟨B12,d12,er⟩:=(hAt (Ext.refl w12)).slice;subst er;have hil:(F.map intP).length=F.length:=AC ..;rw[hil]at hAt|-;have hx12:=hx11.trans hm12.ext;have hcl12:=(hAt (Ext.refl w12)).len;clear hSX hm12 hx11 hd3;have cN:=qie w12;(conv=>whnf);refine qtc (fun s:Nat×E8×ED=>[(0,.slice (some ⟨gA,oA,none⟩) ds.length c),(3,ii mx),(5,pp pb),(10,.slice (some ⟨g4,o4,none⟩) es.length c4),(15,ii ((j+1:Nat):Int)),(16,.slice B12 F.length d12),(17,s.2.1),(18,ii s.1)])
   (fun s w'=>s.1<=F.length/\qRowX s.2.1 (((F.take s.1).filter hd0).map Prod.fst) s.2.2/\Mem w12 w' s.2.2) (fun s=>F.length-s.1) (0,.slice none 0 0,[])
   fq ⟨Am _,RowX.nil _ _,Mem.nil w12⟩ ?_
  rintro⟨u,v,Yo⟩ w13 ρ2 ⟨hu,hR,hm⟩;dsimp only at hu hR hm|-;obtain⟨Av,cv,ev⟩:=hR.slice;subst ev;have hQl:(((F.take u).filter hd0).map Prod.fst).length<=1000000:=by
   rw[AC];have h1:=Cb hd0 (F.take u);rw[AG]at h1;omega
  (conv=>whnf);refine zC (fun _=>zw ?_) (fun _=>zw ?_)
  case' refine_1=>
   have hlt:u<F.length:=by omega
   obtain⟨q,ns,hqn⟩:∃q ns,F[u]?=some (q,ns):=⟨_,_,zge hlt⟩
   obtain⟨m,rfl,hm2⟩:∃m,ns=[m]/\(m=0\/m=1):=by
    rcases hFc _ (zmg hqn)with h|h
    ·exact⟨0,h,.inl rfl⟩
    ·exact⟨1,h,.inr rfl⟩
   obtain⟨g,off,Nn,dn,eB12,hc,hdn,hsN⟩:=(hAt hm.ext).elem (qs6 hqn);have hc:CellsAt w13 g (off+u*17) (seC q (.slice Nn 1 dn)):=hc;obtain⟨gn,on,eNn,hatn⟩:=hsN.at_ Js;have hcm:=hatn 0 (m:Int) rfl;subst eB12 eNn;refine⟨⟨g,off,u,rfl,by omega,by omega,?_⟩⟩;rw[t17];(conv=>whnf);refine LoadV.of (qt5 hc) (zw ?_);refine⟨⟨gn,on,0,rfl,rfl,Nat.zero_lt_one,?_⟩⟩;rw[ti];(conv=>whnf);refine LoadV.cell0 hcm (zw ?_);refine zC (fun _=>zu ?_) (fun _=>zu ?_)
   case' refine_1=>
    have hf:hd0 (q,[m])=true:=by
     have h:m=0:=by omega
     subst h;rfl
    refine⟨⟨g,off,u,rfl,by omega,by omega,?_⟩⟩;rw[t17];(conv=>whnf);refine LoadA.cells (q6p hc) rfl (zw ?_);refine NewV.carr cN hm ?_;clear hm hc hsN hatn hcm;intro nb w14 hm;have hm:Mem w12 w14 (Yo++[(nb,.cells (qd q).toArray 26)]):=cN.perm hm (AE (l₁:=[_]));(conv=>whnf);refine AppV.carr (m:=1) (news:=qd q) cN hm hR qdSl qdI qdZ Jk Jk Od rfl (fun _=>⟨nb,0,rfl,fun j u hu=>by rw[qa (cN.get hm (Ai _ mh)),Aw,Ar];exact hu⟩) (qn q) (by rw[show((EG.info? 26).get Jk).bytes=224 from by kernel_rfl];omega) Oo ?_;clear hm;intro A' c' Y' w15 hR' hm;replace hm:=cN.dropM hm;rw[AI]at hm;refine zu ?_;refine⟨rfl,(u+1,_,Y'),fq,⟨by dsimp only;omega,?_,hm⟩,by dsimp only;omega⟩;dsimp only;rw[qck hqn,Ad hf,AB];show RowX _ _ _ _ (((_++[q]).map qd).flatten) _;rw[qi8,zla];exact hR'
   case' refine_2=>
    have hf:hd0 (q,[m])=false:=by
     have h:m=1:=by omega
     subst h;rfl
    refine⟨rfl,(u+1,_,Yo),fq,⟨by dsimp only;omega,?_,hm⟩,by dsimp only;omega⟩;dsimp only;rw[qck hqn,Aa (by rw[hf];simp),AI];exact hR
  obtain rfl:u=F.length:=by omega
  rw[Bg]at hR|-;obtain⟨Q9,eQ9⟩:∃Q9,Q9=(F.filter hd0).map Prod.fst:=⟨_,rfl⟩
  rw[<-eQ9]at hR|-;have hQ9l:Q9.length<=20000:=by
   rw[eQ9,AC];exact AU (Cb _ _) hFl
  have eQ9':Q9=(F.filter sec1).map Prod.fst:=by rw[eQ9,eF,eE2,q95 hP2]
  obtain⟨_,hc9,hS9⟩:=hR.at_ (w:=w13) (fun x hx=>hm.get hx);have hx13:=hm.ext;clear hR hm hQl;refine V.Fall.min2 rfl rfl rfl ?_;intro mn hmn;(conv=>whnf);obtain⟨k9,ek9⟩:∃k9:Nat,k9=min Q9.length mx.toNat:=⟨_,rfl⟩
  obtain rfl:mn=(k9:Int):=by omega
  refine V.SliceV.to 0 k9 cv rfl rfl rfl (Am _) Oo znr (fun h=>by cases h) ?_;rw[t16,sl0,D7,D7];(conv=>whnf);refine V.Fall.min2 rfl rfl rfl ?_;intro mn hmn;(conv=>whnf);obtain⟨kf,ekf⟩:∃kf:Nat,kf=min F.length mx.toNat:=⟨_,rfl⟩
  obtain rfl:mn=(kf:Int):=by omega
  refine V.SliceV.to 0 kf d12 rfl rfl rfl (Am _) (by have:=hcl12.2;omega) znr (fun h=>by cases h) ?_;rw[t17,sl0,D7,D7];have hk9:(Q9.take mx.toNat).length=k9:=by rw[AG];omega
  have hd13:∀wd,Ext w13.drew wd->Ext w3 wd:=fun wd hd=>hx12.trans (hx13.trans ((Ext.refl w13).drew.trans hd))
  (conv=>whnf);refine DrawW.tail 10 Jk Jk (.inl rfl) (AnyV.free Jk ?_);(conv=>whnf);(iterate 3 (refine zd ?_));refine zsd (.pointer (some ⟨g4,o4+j*1,none⟩)) (fun wd hd=>zw ?_) (zw ?_)
  ·refine⟨⟨g4,o4,j,rfl,by omega,by omega,?_⟩⟩;rw[tx];(conv=>whnf);exact xq
  refine zsd (.pointer xa) (fun wd hd=>zw ?_) (zw ?_)
  ·refine LoadV.cell0 (CellsAt.ext hce0 (hd13 wd hd)) (zw ?_);exact xq
  refine zd ?_;refine zd ?_;refine zsd (.pointer (some ⟨g4,o4+(j+1)*1,none⟩)) (fun wd hd=>zw ?_) (zw ?_)
  ·refine⟨⟨g4,o4,j+1,rfl,by omega,by omega,?_⟩⟩;rw[tx];(conv=>whnf);exact xq
  refine zsd (.pointer xb) (fun wd hd=>zw ?_) (zw ?_)
  ·refine LoadV.cell0 (CellsAt.ext hce1 (hd13 wd hd)) (zw ?_);exact xq
  refine zsd (qk p) (fun wd hd=>zw ?_) (zw ?_)
  ·refine LoadA.own ((hd13 wd hd).get hgp) rfl (zw ?_);exact xq
  intro w16 he16;(conv=>whnf);refine zcv (qx0 xa xb p w16) ?_;rintro r w17 ⟨m1,m2,m3,rfl,hmM⟩;have hx17:=(hd13 w16 he16).trans hmM.ext;have h1317:Ext w13 w17:=((Ext.refl w13).drew.trans he16).trans hmM.ext;have hΦM:DiΦ e0 e1 p m1 m2 m3 w17:=⟨fun e he=>(hPx e (hem e he)).ext hx17,hG3.ext hx17,by rw[qa (hmM.get (zmc (zmc (Ah.2 rfl)))),exa];rfl,by rw[qa (hmM.get (zmc mh)),exb];rfl,qif (hmM.get mh)⟩
  clear hmM hd13;have hd17:∀wd,Ext w17.drew wd->Ext w3 wd:=fun wd hd=>hx17.trans ((Ext.refl w17).drew.trans hd)
  (conv=>whnf);refine DrawW.tail 10 Jk Jk (.inl rfl) (AnyV.free Jk ?_);(conv=>whnf);(iterate 3 (refine zd ?_));refine zsd (.pointer (some ⟨g4,o4+j*1,none⟩)) (fun wd hd=>zw ?_) (zw ?_)
  ·refine⟨⟨g4,o4,j,rfl,by omega,by omega,?_⟩⟩;rw[tx];(conv=>whnf);exact xq
  refine zsd (.pointer xa) (fun wd hd=>zw ?_) (zw ?_)
  ·refine LoadV.cell0 (CellsAt.ext hce0 (hd17 wd hd)) (zw ?_);exact xq
  refine zd ?_;refine zd ?_;refine zsd (.pointer (some ⟨g4,o4+(j+1)*1,none⟩)) (fun wd hd=>zw ?_) (zw ?_)
  ·refine⟨⟨g4,o4,j+1,rfl,by omega,by omega,?_⟩⟩;rw[tx];(conv=>whnf);exact xq
  refine zsd (.pointer xb) (fun wd hd=>zw ?_) (zw ?_)
  ·refine LoadV.cell0 (CellsAt.ext hce1 (hd17 wd hd)) (zw ?_);exact xq
  refine zsd (qk p) (fun wd hd=>zw ?_) (zw ?_)
  ·refine LoadA.own ((hd17 wd hd).get hgp) rfl (zw ?_);exact xq
  intro w18 he18;(conv=>whnf);refine zcv (qrd xa xb p w18) ?_;rintro r w19 ⟨n1,n2,n3,rfl,hmD⟩;have hx19:=(hd17 w18 he18).trans hmD.ext;have h1719:Ext w17 w19:=((Ext.refl w17).drew.trans he18).trans hmD.ext;have hΦD:DiΦ e0 e1 p n1 n2 n3 w19:=⟨fun e he=>(hPx e (hem e he)).ext hx19,hG3.ext hx19,by rw[qa (hmD.get (zmc (zmc (Ah.2 rfl)))),exa];rfl,by rw[qa (hmD.get (zmc mh)),exb];rfl,qif (hmD.get mh)⟩
  replace hΦM:=hΦM.ext h1719;clear hmD hd17;have hsM:=qx1 e0 e1 (fun e he=>(hel e (hem e he)).2) p hp m1 m2 m3 E2 hEE2;have hsD:=qre e0 e1 (fun e he=>(hel e (hem e he)).2) p hp n1 n2 n3 E2 hEE2;rw[<-eF,<-q1y,<-eQ9']at hsM;rw[<-eF,<-qadp]at hsD;have hR9l:(F.map difP).length<=20000:=by rw[AC];exact hFl
  replace hS9:=hS9.ext (h1317.trans h1719);have hAt9:∀{w'},Ext w19 w'->SeenAt w' (.slice B12 kf d12) ((F.map intP).take mx.toNat):=fun{w'} he=>by
   have h1:=hAt (hx13.trans (h1317.trans (h1719.trans he)));have h2:SeenAt w' (.slice B12 (F.map intP).length d12) (F.map intP):=by rw[hil];exact h1
   have h3:=h2.take kf Oo;have h4:(F.map intP).take kf=(F.map intP).take mx.toNat:=by rw[ekf,<-hil,q60]
   rw[h4]at h3;exact h3
  have hTl:((F.map intP).take mx.toNat).length<=20000:=by rw[AG];omega
  have hT1:∀x∈(F.map intP).take mx.toNat,x.2.length<=1152921504606846976:=fun x hx=>by
   obtain⟨e,he,rfl⟩:=AY.1 (CX hx)
   rcases hFc e he with h|h<;>simp[intP,h]
  (conv=>whnf);refine zcv (qek (qie w19) 39 Jk m1 m2 m3 Q9 Oo hsM (fun X w' h=>hΦM.ext h.ext) mx hmx64 [] w19 (Mem.nil w19)) ?_;rintro r w20 ⟨Yq,hQq,hmq⟩;rw[AI]at hmq;obtain⟨Bq,dq,er⟩:=hQq.slice;subst er;obtain⟨_,_,hSq⟩:=hQq.at_ (w:=w20) (fun x hx=>hmq.get hx);have hsq:=qcf (Q9.take mx.toNat) Bq Av dq cv w20 hSq ((qh2 hS9 _).ext hmq.ext) Oo;rw[hk9]at hsq|-;(conv=>whnf);refine zcv hsq ?_;rintro r w21 ⟨rfl,heq⟩;have h1921:Ext w19 w21:=hmq.ext.trans heq;clear hsq hSq hmq hQq heq;refine zu ?_;refine zcv (qek (qie w19) 39 Jk m1 m2 m3 Q9 Oo hsM (fun X w' h=>hΦM.ext h.ext) mx hmx64 [] w21 ((Mem.nil w19).call h1921)) ?_;rintro r w22 ⟨Yq,hQq,hmq⟩;rw[AI]at hmq;obtain⟨Bq,dq,er⟩:=hQq.slice;subst er;obtain⟨_,_,hSq⟩:=hQq.at_ (w:=w22) (fun x hx=>hmq.get hx);have hsq:=qcf (Q9.take mx.toNat) Bq Av dq cv w22 hSq ((qh2 hS9 _).ext hmq.ext) Oo;rw[hk9]at hsq|-;refine zu ?_;refine zcv hsq ?_;rintro r w23 ⟨rfl,heq⟩;have h1923:Ext w19 w23:=hmq.ext.trans heq;clear hsq hSq hmq hQq heq;refine zu ?_;refine zcv (qni (qie w19) 40 Jk n1 n2 n3 (F.map difP) Oo hsD (fun X w' h=>hΦD.ext h.ext) mx hmx64 [] w23 ((Mem.nil w19).call h1923)) ?_;rintro r w24 ⟨Sq,Yq,hSq,hmq,hEq⟩;rw[AI]at hmq;rw[List.map_take,eF,eE2,qvm hP2,<-eE2,<-eF]at hEq;have hAq:=hSq.at_ (w:=w24) (fun x hx=>hmq.get hx);rw[hEq]at hAq;obtain⟨Bq,dq,er⟩:=hAq.slice;subst er;refine zu ?_;refine zcv (qgn ((F.map intP).take mx.toNat) _ _ w24 hAq (hAt9 hmq.ext) Oo hT1) ?_;rintro r w25 ⟨rfl,heq⟩;have h1925:Ext w19 w25:=hmq.ext.trans heq;clear hAq hmq hEq heq;refine zu ?_;refine zcv (qni (qie w19) 40 Jk n1 n2 n3 (F.map difP) Oo hsD (fun X w' h=>hΦD.ext h.ext) mx hmx64 [] w25 ((Mem.nil w19).call h1925)) ?_;rintro r w26 ⟨Sq,Yq,hSq,hmq,hEq⟩;rw[AI]at hmq;rw[List.map_take,eF,eE2,qvm hP2,<-eE2,<-eF]at hEq;have hAq:=hSq.at_ (w:=w26) (fun x hx=>hmq.get hx);rw[hEq]at hAq;obtain⟨Bq,dq,er⟩:=hAq.slice;subst er;refine zu ?_;refine zcv (qgn ((F.map intP).take mx.toNat) _ _ w26 hAq (hAt9 hmq.ext) Oo hT1) ?_;rintro r w27 ⟨rfl,heq⟩;have h1927:Ext w19 w27:=hmq.ext.trans heq;clear hAq hmq hEq heq;refine zu ?_;have hd24:∀wd,Ext w27.drew wd->Ext w3 wd:=fun wd hd=>hx19.trans (h1927.trans ((Ext.refl w27).drew.trans hd))
  refine DrawW.any Jk (.inl rfl) (AnyV.freeW Jk ?_);(conv=>whnf);(iterate 3 (refine zd ?_));refine zsd (.pointer (some ⟨g4,o4+j*1,none⟩)) (fun wd hd=>zw ?_) (zw ?_)
  ·refine⟨⟨g4,o4,j,rfl,by omega,by omega,?_⟩⟩;rw[tx];(conv=>whnf);exact xq
  refine zsd (.pointer xa) (fun wd hd=>zw ?_) (zw ?_)
  ·refine LoadV.cell0 (CellsAt.ext hce0 (hd24 wd hd)) (zw ?_);exact xq
  refine zd ?_;refine zd ?_;refine zsd (.pointer (some ⟨g4,o4+(j+1)*1,none⟩)) (fun wd hd=>zw ?_) (zw ?_)
  ·refine⟨⟨g4,o4,j+1,rfl,by omega,by omega,?_⟩⟩;rw[tx];(conv=>whnf);exact xq
  refine zsd (.pointer xb) (fun wd hd=>zw ?_) (zw ?_)
  ·refine LoadV.cell0 (CellsAt.ext hce1 (hd24 wd hd)) (zw ?_);exact xq
  refine zsd (qk p) (fun wd hd=>zw ?_) (zw ?_)
  ·refine LoadA.own ((hd24 wd hd).get hgp) rfl (zw ?_);exact xq
  refine zsd (shV E2) (fun wd hd=>zw ?_) (zw ?_)
  ·refine zcv (qtd (J:=fun X w'=>Mem wd w' X) (qie wd) e0 e1 (fun e he=>(hel e (hem e he)).2) p hp E2 hEE2 Oo hE2n (fun X w' h=>⟨fun e he=>(hPx e (hem e he)).ext ((hd24 wd hd).trans h.ext),hG3.ext ((hd24 wd hd).trans h.ext)⟩) xa xb exa exb [] wd (Mem.nil wd)) ?_;rintro r wx ⟨rfl,hmx⟩;exact⟨hmx.ext,rfl⟩
  (iterate 3 (refine zd ?_));refine zsd (.pointer (some ⟨gA,oA+j*1,none⟩)) (fun wd hd=>zw ?_) (zw ?_)
  ·refine⟨⟨gA,oA,j,rfl,by omega,by omega,?_⟩⟩;rw[t1];(conv=>whnf);exact xq
  refine zsd (.slice d0.A d0.qs.length d0.c) (fun wd hd=>zw ?_) (zw ?_)
  ·refine LoadV.cell0 (CellsAt.ext hcd0 (hd24 wd hd)) (zw ?_);exact xq
  refine zd ?_;refine zd ?_;refine zsd (.pointer (some ⟨gA,oA+(j+1)*1,none⟩)) (fun wd hd=>zw ?_) (zw ?_)
  ·refine⟨⟨gA,oA,j+1,rfl,by omega,by omega,?_⟩⟩;rw[t1];(conv=>whnf);exact xq
  refine zsd (.slice d1.A d1.qs.length d1.c) (fun wd hd=>zw ?_) (zw ?_)
  ·refine LoadV.cell0 (CellsAt.ext hcd1 (hd24 wd hd)) (zw ?_);exact xq
  refine zsd (qk p) (fun wd hd=>zw ?_) (zw ?_)
  ·refine LoadA.own ((hd24 wd hd).get hgp) rfl (zw ?_);exact xq
  refine zsd (shV E2) (fun wd hd=>zw ?_) (zw ?_)
  ·refine zcv (qr8 d0 d1 p wd (fun d hd'=>(hD3 d (hdm d hd')).ext (hd24 wd hd)) htw hr2 E2 eE2 Oo hE2n) ?_;rintro r wx ⟨rfl,hmx⟩;exact⟨hmx,rfl⟩
  refine zsd (.bool false) (fun wd hd=>zw ?_) (zw ?_)
  ·refine V.RunV.neqSh (E:=E2) (zw ?_);exact xq
  intro w28 he28;refine zu ?_;exact⟨rfl,j+1+1,fq,⟨by omega,by omega,hd24 w28 he28⟩,by omega⟩
end Go.Proofs.YtacnkdagblbgfaaGreatDoor
