/- Lemmas and contracts of functions on the way to the law's card (part 10 of 11). -/
import Derived.Test.YtccmcfpmknpccaaGreatDoorSO9
import Derived.ChangeKeysEq
import Derived.Lib.LaidTab
import Derived.Test.YtccmcfpmknpccaaGreatDoorRows
import Derived.Deep.DeepHandedRow
import Derived.ProofKit
import Derived.OpenShut
import Derived.LaidHandle
import Derived.Shelf.Vars
import Derived.Test.YtccmcfpmknpccaaGreatDoorCards
namespace Go.Proofs.YtccmcfpmknpccaaGreatDoor
set_option maxHeartbeats 8000000
open Go.RowKit V
set_option maxHeartbeats 8000000
set_option maxRecDepth 100000
variable {l:LB} {ts:List TM} {xo yo:Operand} {W w w0:DA} {K:DG} {A:oA} {b g i:Nat} {P:DC} {L:DJ}
theorem qag1(V:VTm l 3 0 ts){q:Nat->Nat}(h:∀j,j<4->q j<=ts.length):sQ ts q=q4Of l q:=by
 have U:∀j,j<4->qce l (q j)=some (sT ts (q j)):=λj Z=>qky V (h j Z)
 simp only[q4Of,uT,U 0 Oo,U 1 Oo,U 2 Oo,U 3 Oo,BL];rfl
theorem VTm.all(U:VTm l 3 0 ts)(h:(vwE l).2=0):ts=vTms l:=by
 have V:ts.length=vTot l 3:=U.len;apply Bj;intro i
 rcases AN i ts.length with hi|hi
 ·have h1:=qky U (id:=i+1) Oo;have Z:=qtz h (id:=i+1) Oo Oo;rw[h1,AX]at Z;rw[<-Z,sT,Aa Oo,AX,Ag,zge hi];rfl
 ·rw[AY hi,AY (by rw[qih];omega)]
def OpX(l:LB)(v:DF)(w:DA):Prop:=
 ((poE l).2≠0/\∃A m d B n c,v=.tuple #[.agg #[.slice B n c,.slice A m d],.bool false])\/
 ((poE l).2=0/\∃A d B c,v=.tuple #[.agg #[.slice B (qsP l).length c,.slice A (vTms (qi l)).length d],.bool true]/\SlAt qm 16 w B (qsP l)/\SlAt encT 4 w A (vTms (qi l)))
theorem qn3(l:LB)(A0:oA)(c0:Nat)(w:DA)(hS:SlAt encB 1 w A0 l)(hc:l.length<=c0)(hl:l.length<=140737488351232):
  Gv DM 12 [.slice A0 l.length c0] w λr w'=>OpX l r w'/\Ext w w':=by
 refine ze Tryz.func12 Tryz.ntmps12 ?_;refine znm (Mem.nil w) λrb w1 Z=>zw ?_;refine zcv (q0d l A0 c0 w1 (hS.ext Z.ext) hc hl) ?_;rintro v w2 ⟨ad,ak⟩;replace Z:=Z.call ak;obtain⟨i0,i1,i2,i3,A,m,d,B,n,c,a,e,rfl,aa⟩:∃(i0 i1 i2 i3:Int) (A:oA) (m d:Nat) (B:oA) (n c:Nat) (a e:Int),v=.tuple #[.agg #[ii i0,ii i1,ii i2,ii i3],.slice A m d,.slice B n c,.agg #[ii a,ii e]]/\
   ((e≠0/\(poE l).2≠0)\/(e=0/\(poE l).2=0/\n=(qsP l).length/\m=(vTms (qi l)).length/\SlAt qm 16 w2 B (qsP l)/\SlAt encT 4 w2 A (vTms (qi l)))):=by
  rcases ad with⟨h0,rfl⟩|⟨h0,ts,ae,al,hQ,OA,oc,QB,qc,rfl,am,af,an,ag⟩
  ·exact⟨_,_,_,_,_,_,_,_,_,_,_,_,rfl,.inl ⟨by omega,h0⟩⟩
  ·have hW:=(qci h0).2.2.2.1;have ht:=VTm.all ae hW;have hq:(List.range (vNum (qk l) 3)).map (λi=>sQ ts (tNum (qk l) i))=qsP l:=Cu λi hi=>qag1 ae (hQ i (BB.1 hi)).1
   rw[hq]at af;rw[ht]at ag;exact⟨_,_,_,_,_,_,_,_,_,_,_,_,rfl,.inr ⟨rfl,h0,(ql5 l).symm,(qih _).symm,af,ag⟩⟩
 clear ad;refine znm (Mem.nil w2) ?_;intro ib w3 U;refine znm U ?_;clear U;intro fb w4 U;refine zS U 1 ?_;clear U;intro w5 U;refine zS U 0 ?_;clear U;intro w6 U;have ah:=U.ext;replace Z:Mem w w6 [(fb,.cells #[ii a,ii e] 55),(ib,.cells #[ii i0,ii i1,ii i2,ii i3] 53),(rb,.cells #[.slice none 0 0,.slice none 0 0] 30)]:=Z.glue U;have ai:=Z.get (zmc (zmc (Aq.2 rfl)));clear U;(conv=>whnf);refine DrawV.gen (λS V w'=>Mem w w' [(fb,.cells #[ii a,ii e] 55),(ib,.cells #[ii i0,ii i1,ii i2,ii i3] 53),(rb,.cells (bif S 6 then #[.slice B n c,.slice A m d]else #[.slice none 0 0,.slice none 0 0]) 30)]/\∀z,z≠rb->w'.heap[z]?=w6.heap[z]?) rfl Jk (λV=>⟨Z.drew,λz _=>rfl⟩) ?_;clear Z;(conv=>whnf);(iterate 4 (refine zg ?_));refine StepG.of (ii e) (λS V wd hk hp hI=>zw ?_) (zw ?_)
 ·refine zr hI.1 0 ?_;exact⟨rfl,hI⟩
 refine zg ?_;refine StepG.of undef (λS V wd hk hp hI=>?_) (zw ?_)
 ·dsimp only at hI;rw[hk]at hI;refine StoreA.row hI.1 (i:=2) rfl (Ai 2) (by simp[Value.oneCell']) λwx h1 U h3=>zw ?_;exact⟨rfl,h3,λz hz=>(h1 z hz).trans (hI.2 z hz)⟩
 refine zg ?_;intro V w8 hI;obtain⟨Z,aj⟩:=hI;replace Z:Mem w w8 [(fb,.cells #[ii a,ii e] 55),(ib,.cells #[ii i0,ii i1,ii i2,ii i3] 53),(rb,.cells #[.slice B n c,.slice A m d] 30)]:=Z;refine qd (R:=λr w'=>OpX l r w'/\Ext w w') ?_;refine zl Z 2 ?_;refine⟨?_,Z.ext⟩
 rcases aa with⟨h1,U⟩|⟨rfl,U,rfl,rfl,h3,h4⟩
 ·refine .inl ⟨U,A,m,d,B,n,c,?_⟩;rw[Ax h1];rfl
 ·refine .inr ⟨U,A,d,B,c,rfl,SlAt.other (h3.ext ah) ai (λy _ v hv=>?_) (λy _=>by simp[qm,encT]) aj,SlAt.other (h4.ext ah) ai (λy _ v hv=>?_) (λy _=>by simp[encT]) aj⟩
  ·have:v=.slice none 0 0:=by simpa using hv
   subst this;intro e;cases e
  ·have:v=.slice none 0 0:=by simpa using hv
   subst this;intro e;cases e
theorem qaf6:DM.underlying 95=some (.array 4 3):=by kernel_rfl
theorem q8t:DM.eqGuardType DM.depth 95=false:=by kernel_rfl
theorem qadd:DM.info? 3=some ((DM.info? 3).get Jk):=(Bd _).symm
theorem qmd(d:Nat)(a b c e:Int)(w:DA):(Op.equalIn (d+2) 95 (.agg #[ii a,ii b,ii c,ii e]) (.agg #[ii a,ii b,ii c,ii e])).run DM w=.ok true w:=by
 have V:=Tryz.underlying3;have Z:=Tryz.isAgg3;have z3:=Tryz.sizeOf3;rw[run_equalIn_array (w:=w) (d:=d+1) _ _ qaf6 qadd];have U:DM.cellsOf 3=1:=by kernel_rfl
 rw[U,show List.range 4=[0,1,2,3]from rfl];simp only[Op.eqItems]
 go_simp
theorem V.RunV.eqIds{a b c e:Int}(h:K (.bool true) w):
  RunV DM (do eqGuard .eql 95 xo yo (.agg #[ii a,ii b,ii c,ii e]) (.agg #[ii a,ii b,ii c,ii e]);binOp .eql 95 (.agg #[ii a,ii b,ii c,ii e]) (.agg #[ii a,ii b,ii c,ii e])) w K:=by
 refine⟨_,w,?_,h⟩;have U:=qmd 9998 a b c e w;rw[Sem.run_bind,run_eqGuard_agg w .eql _ xo yo _ _ q8t,Result.andThen_ok,run_eql_struct,U];rfl
theorem V.SlAt.pre{α:Type}{enc:α->DK}{U:Nat}{l:List α}(h:SlAt enc U w A l)(n:Nat):SlAt enc U w A (l.take n):=by
 refine⟨λZ=>?_⟩;obtain⟨b,aa,h1,h2⟩:=h.at_ (by rintro rfl;simp at Z);refine⟨b,aa,h1,λj x V=>h2 j x ?_⟩;rw[Bv]at V
 split at V
 ·exact V
 ·cases V
structure AskE where
 kind:Int
 q:Q4
 pl:Int
 pre:DB
 most:Int
def askC(a:AskE):DK:=ii a.kind::(qm a.q++[ii a.pl,.string a.pre,ii a.most])
def askV(a:AskE):DF:=.agg (askC a).toArray
def q7k(a:AskE):Prop:=qcl a.q/\InR .i64 a.most
theorem q7p(a:AskE):(askC a).length=20:=rfl
theorem qaht{o:Nat}{a:AskE}(h:CellsAt w b o (askC a)):CellsAt w b (o+1) (qm a.q):=λk v U=>by
 have V:k<(qm a.q).length:=(Ae.1 U).1;have:=h (1+k) v (by rw[askC,CL,B7,AS V];exact U)
 rwa[<-Cb]at this
theorem q5z(T:List TM)(p:Q4):∃(F:Nat->Int) (b:Bool),qey T p=.tuple #[.agg #[ii (F 0),ii (F 1),ii (F 2),ii (F 3)],.bool b]:=by
 by_cases U:KnQ T p
 ·exact⟨idP T p,true,by rw[qey,Ab U]⟩
 ·exact⟨λ_=>0,false,by rw[qey,Aa U];rfl⟩
open Go.RowKit
namespace V
theorem qxx{P:DC}{w:DA}:∀{l:List (String×DataW Unit)} {Z:List MemPlace},DataW.LaidVars P w l Z->∀{n:String} {d:DataW Unit},(n,d)∈l->
  ∃g t U fuel p,P.globalNamed n=some g/\(P.globals[g]?).map (·.type)=some t/\w.var? P n=some U/\DataW.trod (λ_=>()) P w 0 (λ_=>true) false fuel t U.toList=some (d,p)
 | [],_,_,_,_,h=>by cases h
 | (n0,d0)::r,Z,h,n,d,V=>by
  obtain⟨g,t,U,fuel,p,q,h1,h2,h3,h4,h5,_⟩:=h
  rcases Ay.1 V with e|V
  ·cases e;exact⟨g,t,U,fuel,p,h1,h2,h3,h4⟩
  ·exact qxx h5 V
theorem qpq{name:String}{k:IntKind}{zs:List Int}{l:List (String×DataW Unit)}{t e:DD}{n:Nat}(hg:P.globalNamed name=some g)(V:(P.globals[g]?).map (·.type)=some t)(ht:P.underlying t=some (.array n e))(he:P.underlying e=some (.int k))(Z:P.cellsOf e=1)(aa:P.cellsOf t=n)(h:laidMet P l W)(hm:(name,Lib.tabData k zs)∈l):CellsAt W g 0 (zs.map λz=>Value.int k z):=by
 obtain⟨ps,h,_⟩:=h;obtain⟨g',t',cs,fuel,p,ad,ae,U,hd⟩:=qxx h hm;obtain rfl:=AR (hg.symm.trans ad);obtain rfl:=AR (V.symm.trans ae);have hT:Lib.TabIs P W name k zs:=by
  unfold Lib.TabIs;rw[U,<-Lib.cells_of_tab ht he Z aa hd]
 intro i v hv;have hi:i<zs.length:=by simpa using(Ae.1 hv).1
 have:=hT.cell hg i hi;rw[As,this];rw[Ao,zge hi]at hv;rw[Ag,zge hi]
 simpa using hv
end V
open Go.ChangeShapes Go.WideShapes Go.ChangeAt Go.RowKit
theorem own:ownKnob DM.godebug=none:=by kernel_rfl
theorem q80:laidOutB DM=true:=by kernel_rfl
mutual
def qaau:DataW Unit->DK
 | .lit (.int k n)=>[.int k n]
 | .agg l=>cellsDs l
 | _=>[]
def cellsDs:List (DataW Unit)->DK
 | []=>[]
 | d::l=>qaau d++cellsDs l
end
def qagh(w:DA)(x:Nat×DataW Unit):DA:=
 { w with heap:=w.heap.modify x.1 fun
   | .cells _ t frozen=>.cells (qaau x.2).toArray t frozen
   | o=>o }
noncomputable def qagg(U:Os)(l:List (Nat×DataW Unit)):DA:=l.foldl qagh (World.holding DM U ⟨#[],#[],[]⟩)
open Go.ChangeShapes Go.WideShapes Go.ChangeAt Go.RowKit V
theorem qla:DM.cellsOf 45=4:=by kernel_rfl
theorem q2f:DM.cellsOf 47=16:=by kernel_rfl
theorem qw7:DM.cellsOf 49=20:=by kernel_rfl
theorem q7z:DM.bytesOf 49=264:=by kernel_rfl
section
variable {H:Type} {enc:DD×DF->H} {W:DA}
theorem qkp{c:DF}(h:Opn enc DM W 9 [c]):∃s:DB,c=.string s/\s.size<=140737488355328:=h.string Tryz.underlying9
theorem qhy{cs:DK}(h:Opn enc DM W 45 cs):∃t:TM,cs=encT t/\TermOk t:=by
 obtain⟨hl,hf⟩:=Opn.fields Tryz.underlying45 h;rw[qla]at hl
 match cs,hl with
 | [U,V,Z,c3],_=>
  have g0:Opn enc DM W 3 (([U,V,Z,c3].drop 0).take (DM.cellsOf 3)):=hf 0 _ rfl;rw[qkc]at g0;have g1:Opn enc DM W 9 (([U,V,Z,c3].drop 1).take (DM.cellsOf 9)):=hf 1 _ rfl;rw[qkd]at g1;have g2:Opn enc DM W 9 (([U,V,Z,c3].drop 2).take (DM.cellsOf 9)):=hf 2 _ rfl;rw[qkd]at g2;have g3:Opn enc DM W 9 (([U,V,Z,c3].drop 3).take (DM.cellsOf 9)):=hf 3 _ rfl;rw[qkd]at g3;obtain⟨n0,rfl,k0⟩:=Opn.int (c:=U) Tryz.underlying3 g0;obtain⟨n1,rfl,k1⟩:=qkp (c:=V) g1;obtain⟨n2,rfl,k2⟩:=qkp (c:=Z) g2;obtain⟨n3,rfl,k3⟩:=qkp (c:=c3) g3;exact⟨⟨n0,n1,n2,n3⟩,rfl,⟨q3r k0,k1,k2,k3⟩⟩
theorem q5b{cs:DK}(h:Opn enc DM W 47 cs):∃q:Q4,cs=qm q/\qcl q:=by
 obtain⟨hl,hf⟩:=Opn.fields Tryz.underlying47 h;rw[q2f]at hl
 match cs,hl with
 | [U,V,Z,a3,b0,b1,b2,b3,c0,c1,c2,c3,d0,d1,d2,d3],_=>
  have g0:Opn enc DM W 45 (([U,V,Z,a3,b0,b1,b2,b3,c0,c1,c2,c3,d0,d1,d2,d3].drop 0).take (DM.cellsOf 45)):=hf 0 _ rfl;rw[qla]at g0;have g1:Opn enc DM W 45 (([U,V,Z,a3,b0,b1,b2,b3,c0,c1,c2,c3,d0,d1,d2,d3].drop 4).take (DM.cellsOf 45)):=hf 1 _ rfl;rw[qla]at g1;have g2:Opn enc DM W 45 (([U,V,Z,a3,b0,b1,b2,b3,c0,c1,c2,c3,d0,d1,d2,d3].drop 8).take (DM.cellsOf 45)):=hf 2 _ rfl;rw[qla]at g2;have g3:Opn enc DM W 45 (([U,V,Z,a3,b0,b1,b2,b3,c0,c1,c2,c3,d0,d1,d2,d3].drop 12).take (DM.cellsOf 45)):=hf 3 _ rfl;rw[qla]at g3;obtain⟨t0,e0,k0⟩:=qhy (cs:=[U,V,Z,a3]) g0;obtain⟨t1,e1,k1⟩:=qhy (cs:=[b0,b1,b2,b3]) g1;obtain⟨t2,e2,k2⟩:=qhy (cs:=[c0,c1,c2,c3]) g2;obtain⟨t3,e3,k3⟩:=qhy (cs:=[d0,d1,d2,d3]) g3;simp only[encT,List.cons.injEq]at e0 e1 e2 e3;obtain⟨rfl,rfl,rfl,rfl,_⟩:=e0;obtain⟨rfl,rfl,rfl,rfl,_⟩:=e1;obtain⟨rfl,rfl,rfl,rfl,_⟩:=e2;obtain⟨rfl,rfl,rfl,rfl,_⟩:=e3;refine⟨⟨t0,t1,t2,t3⟩,rfl,λk=>?_⟩
  match k with
  | 0=>exact k0
  | 1=>exact k1
  | 2=>exact k2
  | k+3=>exact k3
noncomputable instance:Inhabited Q4:=⟨zQ⟩
noncomputable instance:Inhabited AskE:=⟨⟨0,zQ,0,⟨#[]⟩,0⟩⟩
theorem q9g{cs:DK}(h:Opn enc DM W 49 cs):∃a:AskE,cs=askC a/\q7k a:=by
 obtain⟨hl,hf⟩:=Opn.fields Tryz.underlying49 h;rw[qw7]at hl
 match cs,hl with
 | [U,V,Z,a2,a3,b0,b1,b2,b3,c0,c1,c2,c3,d0,d1,d2,d3,p0,s0,m0],_=>
  have g0:Opn enc DM W 3 (([U,V,Z,a2,a3,b0,b1,b2,b3,c0,c1,c2,c3,d0,d1,d2,d3,p0,s0,m0].drop 0).take (DM.cellsOf 3)):=hf 0 _ rfl;rw[qkc]at g0;have g1:Opn enc DM W 47 (([U,V,Z,a2,a3,b0,b1,b2,b3,c0,c1,c2,c3,d0,d1,d2,d3,p0,s0,m0].drop 1).take (DM.cellsOf 47)):=hf 1 _ rfl;rw[q2f]at g1;have g2:Opn enc DM W 3 (([U,V,Z,a2,a3,b0,b1,b2,b3,c0,c1,c2,c3,d0,d1,d2,d3,p0,s0,m0].drop 17).take (DM.cellsOf 3)):=hf 2 _ rfl;rw[qkc]at g2;have g3:Opn enc DM W 9 (([U,V,Z,a2,a3,b0,b1,b2,b3,c0,c1,c2,c3,d0,d1,d2,d3,p0,s0,m0].drop 18).take (DM.cellsOf 9)):=hf 3 _ rfl;rw[qkd]at g3;have g4:Opn enc DM W 3 (([U,V,Z,a2,a3,b0,b1,b2,b3,c0,c1,c2,c3,d0,d1,d2,d3,p0,s0,m0].drop 19).take (DM.cellsOf 3)):=hf 4 _ rfl;rw[qkc]at g4;obtain⟨n0,rfl,h0⟩:=Opn.int (c:=U) Tryz.underlying3 g0;obtain⟨q,eq,hq⟩:=q5b (cs:=[V,Z,a2,a3,b0,b1,b2,b3,c0,c1,c2,c3,d0,d1,d2,d3]) g1;obtain⟨n2,rfl,h2⟩:=Opn.int (c:=p0) Tryz.underlying3 g2;obtain⟨n3,rfl,h3⟩:=qkp (c:=s0) g3;obtain⟨n4,rfl,h4⟩:=Opn.int (c:=m0) Tryz.underlying3 g4;refine⟨⟨n0,q,n2,n3,n4⟩,?_,hq,q3r h4⟩;show _=ii n0::(qm q++[ii n2,.string n3,ii n4]);rw[<-eq];rfl
theorem q5a{c:DF}(h:Opn enc DM W 23 [c]):
  ∃(A:oA) (U:Nat) (l:List AskE),c=.slice A l.length U/\l.length<=140737488355328/\(∀a∈l,q7k a)/\SlAt askC 20 W A l:=by
 obtain⟨A,U,l,Z,h2,h3,h4,h5⟩:=h.sliceR (en:=askC) (R:=q7k) (size:=20) Tryz.underlying23 qw7 Od q7p (λcs hc=>q9g hc);rw[q7z]at h3;exact⟨A,U,l,Z,by omega,h4,h5⟩
end
theorem qado(h:W.ShapedOpen DM):MaxLenAt W:=
 cell_of_shapedOpen_int (zero:=#[ii 0]) (t:=3) (k:=.i64) h (BR Jk) Jk rfl Jk Jk Tryz.underlying3
def tabs:List (String×DataW Unit):=[("unicode/utf8.acceptRanges",Rows.laid_unicode_utf8_acceptRanges),("tessera/sums.nibbles",Rows.laid_tessera_sums_nibbles),("tessera/names.basesTable",Rows.laid_tessera_names_basesTable),("tessera/vocab.kinds",Rows.laid_tessera_vocab_kinds),("unicode/utf8.first",Rows.laid_unicode_utf8_first)]
def qadg:List (String×DataW Unit):=[("unicode/utf8.acceptRanges",Rows.laid_unicode_utf8_acceptRanges),("errors.errorType",Rows.laid_errors_errorType),("tessera/sums.nibbles",Rows.laid_tessera_sums_nibbles),("tessera/names.basesTable",Rows.laid_tessera_names_basesTable),("tessera/vocab.kinds",Rows.laid_tessera_vocab_kinds),("unicode/utf8.first",Rows.laid_unicode_utf8_first)]
theorem qagf(h:laidMetH DM qadg W):laidMet DM tabs W/\handlesMet DM [("errors.errorType",Rows.laid_errors_errorType)] W:=h
theorem qahc(h:laidMet DM tabs W):CellsAt W 4 0 qb3:=
 qpq (name:= "tessera/names.basesTable") (k:=.i32) (zs:=[192,214,216,246,248,767,880,893,895,8191,8204,8205,8304,8591,11264,12271,12289,55295,63744,64975,65008,65533,65536,983039]) (l:=tabs) (g:=4) (t:=480) (e:=21) (n:=24)
  Jk Jk Tryz.underlying480 Tryz.underlying21 Jk Jk h (zmc (zmc mh))
theorem q9b(h:laidMet DM tabs W):CellsAt W 3 0 qlu:=
 qpq (name:= "tessera/sums.nibbles") (k:=.u32) (zs:=nibs.map λn:Nat=>(n:Int)) (l:=tabs) (g:=3) (t:=446) (e:=179) (n:=16)
  Jk Jk Tryz.underlying446 Tryz.underlying179 Jk Jk h (zmc mh)
theorem qagd(h:laidMet DM tabs W):qk7 W:=
 qpq (name:= "tessera/vocab.kinds") (k:=.i64) (zs:=[1,2,3]) (l:=tabs) (g:=2) (t:=113) (e:=3) (n:=3)
  Jk Jk Tryz.underlying113 Tryz.underlying3 Jk Jk h (zmc (zmc (zmc mh)))
theorem etL:DM.globalNamed "errors.errorType" = some 0:=by kernel_rfl
theorem rtL:(DM.cutTypes.find? (·.1== "internal/reflectlite.rtype")).map (·.2)=some 314:=by kernel_rfl
theorem qad1:((List.range DM.types.size).filter λt=>DM.rowNamed t [101,114,114,111,114])=[38]:=by kernel_rfl
theorem qacz(h:handlesMet DM [("errors.errorType",Rows.laid_errors_errorType)] W):ErrTyp W:=by
 obtain⟨name,u,ty,e1,e2,e3,e4,V⟩:=h _ (Aq.2 rfl);have en:name=[101,114,114,111,114]:=(AR e1).symm;subst en;obtain rfl:=AR (rtL.symm.trans e2);have Z:ty∈(List.range DM.types.size).filter λt=>DM.rowNamed t [101,114,114,111,114]:=By.2 ⟨BB.2 e3,e4⟩
 rw[qad1]at Z;obtain rfl:=Aq.1 Z;have hh:typeHandle DM 38=.pointer (some ⟨7,38,none⟩):=by kernel_rfl
 rw[hh]at V;have hc:=World.var?_cell etL V 0;unfold ErrTyp
 simpa using hc
structure GlobM(w:DA):Prop where
 S:GlobS w
 N:CellsAt w 3 0 qlu
 G:ErrTyp w
theorem qac6(h:laidMetH DM qadg W)(V:W.ShapedOpen DM):GlobM W:=
 have U:=qagf h
 ⟨⟨qado V,qahc U.1,qagd U.1⟩,q9b U.1,qacz U.2⟩
noncomputable def witP(V:Os):DA:=
 let w0:=qagg V [(6,Rows.laid_unicode_utf8_acceptRanges),(3,Rows.laid_tessera_sums_nibbles),(4,Rows.laid_tessera_names_basesTable),(2,Rows.laid_tessera_vocab_kinds),(5,Rows.laid_unicode_utf8_first)]
 { w0 with heap:=w0.heap.modify 0 fun
   | .cells _ t frozen=>.cells #[.iface 314 (.agg #[.pointer (some ⟨7,38,none⟩)])] t frozen
   | o=>o }
theorem quj{c:OpenClaim}(V:c.start=.entering)(h:P.funcs.any Func.goes=false):false=c.goesBy P:=by
 have U:∀g:FuncId,(P.funcs[g]?).any Func.goes=false:=λg=>by
  cases e:P.funcs[g]? with
  | none=>rfl
  | some fn=>
   rw[Array.any_eq_false]at h;obtain⟨U,rfl⟩:=BQ.1 e
   simpa using h g U
 have Z:∀f,P.goes f=false:=λf=>by
  rw[Program.goes,h,Cw,Bool.or_false,List.any_eq_false];intro g _;rw[U g];exact Dz
 rw[OpenClaim.goesBy,V,Program.goesAt,Program.goesFrom,Bool.or_false];cases P.funcNamed c.func with
 | none=>rfl
 | some f=>exact(Z f).symm
theorem qagp:DM.funcs.any Func.goes=false:=by kernel_rfl
theorem andT{a b:Bool}(h:a=true)(k:b=true):(a&&b)=true:=by rw[h,k];rfl
theorem q1x(T:List TM)(qs:List Q4)(h:EncOk T qs)(x pb vb tb:Nat)(B:oA)(c:Nat)(A:oA)(d:Nat)(a:AskE)(hq:qcl a.q)(ax:InR .i64 a.most)(w:DA)(hX:IdxE w x pb vb tb (encP T qs))(hG:GlobS w)(hB:SlAt qm 16 w B qs)(hA:SlAt encT 4 w A T):
  Gv DM 13 [pp x,.agg #[.slice B qs.length c,.slice A T.length d],askV a] w λr w'=>r=.bool true/\Ext w w':=by
 have ag:=h.set.len;have a3:=h.set.few;have ar:=h.set.rise;have ay:∀t∈T,1<=t.kind:=λt ht=>(h.kinds t ht).1
 have az:=qjs a.q qs;obtain⟨M,eM⟩:∃M,M=qbe a.q qs:=⟨_,rfl⟩
 rw[<-eM]at az;refine ze Tryz.func13 Tryz.ntmps13 ?_;refine znm (Mem.nil w) λb4 w1 hm=>zw ?_;refine znm hm ?_;clear hm;intro b5 w2 hm;replace hm:Mem w w2 [(b5,.cells (askC a).toArray 49),(b4,.cells #[.slice B qs.length c,.slice A T.length d] 30)]:=hm;have Z:=hm.ext;have ah:∀w',Ext w2 w'->CellsAt w' b5 0 (askC a):=λw' he k v hv=>by
  rw[qa (he.get (hm.get mh)),As,An];exact hv
 have ad:∀w',Ext w2 w'->CellsAt w' b5 (0+1) (qm a.q):=(by grind [qaht])
 have am:∀w',Ext w2 w'->w'.heap[b4]?=some (.cells #[.slice B qs.length c,.slice A T.length d] 30):=λw' he=>he.get (hm.get (zmc (Aq.2 rfl)))
 clear hm;have hr:=Ext.refl w2;(conv=>whnf);refine LoadV.of ((ah w2 hr) 19 _ rfl) (zw ?_);refine V.Fall.max2 rfl rfl rfl ?_;intro mx a4;obtain⟨m,rfl⟩:∃m:Nat,mx=(m:Int):=⟨mx.toNat,by omega⟩
 have au:m<=9223372036854775807:=by have:=ax.2;omega
 (conv=>whnf);refine LoadV.of ((ah w2 hr) 0 _ rfl) (zw ?_);have aw:a.kind=0\/a.kind=1\/a.kind=2\/a.kind=3\/a.kind=4\/a.kind=5\/a.kind=6\/(a.kind≠0/\a.kind≠1/\a.kind≠2/\a.kind≠3/\a.kind≠4/\a.kind≠5/\a.kind≠6):=by omega
 rcases aw with hk|hk|hk|hk|hk|hk|hk|hk
 case inl=>
  refine zu ?_;have hx:∀wd,Ext w2.drew wd->Ext w2 wd:=λwd hd=>(Ext.refl w2).drew.trans hd
  refine DrawV.free Jk Jk (zw ?_);refine zd ?_;refine zsd (ii (qs.length:Nat)) (λwd hd=>zw ?_) (zw ?_)
  ·refine zcv (q92 (encP T qs) x pb vb tb wd (hX.ext (Z.trans (hx wd hd)))) ?_;rintro r wx ⟨rfl,he⟩;exact⟨he,by rw[h.n]⟩
  refine zd ?_;refine zsd (.slice B qs.length c) (λwd hd=>zw ?_) (zw ?_)
  ·refine LoadV.own (am wd (hx wd hd)) rfl (zw ?_);exact xq
  (iterate 3 (refine zd ?_));intro w3 aa;(conv=>whnf);exact⟨by simp,Z.trans (hx w3 aa)⟩
 case inr.inl=>
  obtain⟨F,bb,ev⟩:=q5z T a.q;refine zu ?_;refine LoadA.cells (ad w2 hr) rfl (zw ?_);refine zcv (qql T qs h x a.q hq w2 (hX.ext Z).at_ (hG.ext Z).M (hG.ext Z).T) ?_;rintro r w3 ⟨rfl,aa⟩;rw[ev];(conv=>whnf);refine znm (Mem.nil w3) λia w4 hm=>zw ?_;refine zS hm 0 ?_;clear hm;intro w5 hm;have av:Ext w2 w5:=aa.trans hm.ext;(conv=>whnf);refine LoadA.own (am w5 av) rfl (zw ?_);refine LoadA.cells (ad w5 av) rfl (zw ?_);refine zcv (q3q T B qs.length c A T.length d a.q w5 ar ay (hA.ext (Z.trans av)) rfl Oo) ?_;rintro r w6 ⟨rfl,an⟩;replace hm:=hm.call an;rw[ev];(conv=>whnf);refine znm hm λib w7 hm=>zw ?_;refine zS hm 0 λw8 hm=>zw ?_;refine zl hm 1 ?_;refine zl hm 0 ?_;refine V.RunV.eqIds (zu ?_);cases bb
  ·(conv=>whnf);exact⟨rfl,Z.trans (aa.trans hm.ext)⟩
  ·(conv=>whnf);exact⟨rfl,Z.trans (aa.trans hm.ext)⟩
 case inr.inr.inl=>
  obtain⟨b0,a5⟩:∃b0:Bool,(b0=true↔a.q∈qs):=by
   by_cases aw:a.q∈qs
   all_goals simp_all
  refine zu ?_;have hx:∀wd,Ext w2.drew wd->Ext w2 wd:=λwd hd=>(Ext.refl w2).drew.trans hd
  refine DrawV.free Jk Jk (zw ?_);refine zd ?_;refine zd ?_;refine zsd (q4 a.q) (λwd hd=>zw ?_) (zw ?_)
  ·refine LoadA.cells (ad wd (hx wd hd)) rfl (zw ?_);exact xq
  refine zsd (.bool b0) (λwd hd=>zw ?_) (zw ?_)
  ·refine zcv (q9z T qs h x pb vb tb a.q hq wd (hX.ext (Z.trans (hx wd hd))) (hG.ext (Z.trans (hx wd hd)))) ?_
   grind
  refine zsd (.agg #[.slice B qs.length c,.slice A T.length d]) (λwd hd=>zw ?_) (zw ?_)
  ·refine LoadA.own (am wd (hx wd hd)) rfl (zw ?_);exact xq
  refine zd ?_;refine zsd (q4 a.q) (λwd hd=>zw ?_) (zw ?_)
  ·refine LoadA.cells (ad wd (hx wd hd)) rfl (zw ?_);exact xq
  refine zsd (.bool b0) (λwd hd=>zw ?_) (zw ?_)
  ·refine zcv (q3m qs B qs.length c A T.length d a.q wd h.set.ord (hB.ext (Z.trans (hx wd hd))) rfl ag) ?_
   grind
  refine zd ?_;refine zd ?_;intro w3 aa;(conv=>whnf);exact⟨by simp,Z.trans (hx w3 aa)⟩
 case inr.inr.inr.inl=>
  refine zu ?_;refine LoadA.cells (ad w2 hr) rfl (zw ?_);refine zcv (quy T qs h x pb vb tb a.q hq m au w2 (hX.ext Z) (hG.ext Z)) ?_;rintro r w3 ⟨⟨v,rfl,D1,d1,rfl,ao,ai⟩,aa⟩;rw[<-eM]at ai ao|-;refine zu ?_;refine LoadA.own (am w3 aa) rfl (zu ?_);refine LoadA.cells (ad w3 aa) rfl (zu ?_);refine zcv (qet qs B qs.length c A T.length d a.q w3 (hB.ext (Z.trans aa)) rfl ag) ?_;rintro r w4 ⟨⟨D2,d2,rfl,aj,ae⟩,ak⟩;rw[<-eM]at ae aj|-;refine zu ?_;refine zcv (qlh D2 (snL qs M).length d2 m w4 aj) ?_;rintro r w5 ⟨rfl,af⟩;have eE:snL qs (M.take m)=(snL qs M).take m:=by rw[snL,snL,CB]
  have aq:(snL qs (M.take m)).length=min (snL qs M).length m:=by grind
  have al:=V.SlAt.pre ae m;rw[<-eE]at al;rw[<-aq];refine zu ?_;refine zcv (qcw (snL qs (M.take m)) D1 D2 d1 d2 w5 (ai.ext (ak.trans af)) (al.ext af) (by rw[aq,qdw];omega)) ?_;rintro r w6 ⟨rfl,an⟩;refine zu ?_;exact⟨rfl,Z.trans (aa.trans (ak.trans (af.trans an)))⟩
 case inr.inr.inr.inr.inl=>
  refine zu ?_;have hx:∀wd,Ext w2.drew wd->Ext w2 wd:=λwd hd=>(Ext.refl w2).drew.trans hd
  refine DrawV.free Jk Jk (zw ?_);refine zd ?_;refine zd ?_;refine zsd (q4 a.q) (λwd hd=>zw ?_) (zw ?_)
  ·refine LoadA.cells (ad wd (hx wd hd)) rfl (zw ?_);exact xq
  refine zsd (ii (M.length:Nat)) (λwd hd=>zw ?_) (zw ?_)
  ·refine zcv (q1b T qs h x pb vb tb a.q hq wd (hX.ext (Z.trans (hx wd hd))) (hG.ext (Z.trans (hx wd hd)))) ?_
   simp_all
  refine zsd (.agg #[.slice B qs.length c,.slice A T.length d]) (λwd hd=>zw ?_) (zw ?_)
  ·refine LoadA.own (am wd (hx wd hd)) rfl (zw ?_);exact xq
  refine zd ?_;refine zsd (q4 a.q) (λwd hd=>zw ?_) (zw ?_)
  ·refine LoadA.cells (ad wd (hx wd hd)) rfl (zw ?_);exact xq
  apply StepD.of (λv wx=>∃D k,v=.slice D M.length k) (by grind)
  ·intro wd hd;(conv=>whnf);refine zcv (qet qs B qs.length c A T.length d a.q wd (hB.ext (Z.trans (hx wd hd))) rfl ag) ?_;rintro r wx ⟨⟨D2,d2,rfl,aj,ae⟩,he⟩
   simp_all[qdw]
  (conv=>whnf);refine zsd (ii (M.length:Nat)) (λwd hd=>zw ?_) (zw ?_)
  ·rintro v ⟨D2,d2,rfl⟩;(conv=>whnf);exact xq
  refine zd ?_;refine zd ?_;intro w3 aa;(conv=>whnf);rintro v ⟨D2,d2,rfl⟩;(conv=>whnf);exact⟨by simp,Z.trans (hx w3 aa)⟩
 case inr.inr.inr.inr.inr.inl=>
  refine zu ?_;refine LoadA.cells (ad w2 hr) rfl (zw ?_);refine LoadV.of ((ah w2 hr) 17 _ rfl) (zw ?_);refine zcv (q1k T qs h x pb vb tb a.q hq a.pl m au w2 (hX.ext Z) (hG.ext Z)) ?_;rintro r w3 ⟨⟨v,rfl,D1,d1,rfl,ao,ai⟩,aa⟩;(conv=>whnf);refine LoadA.own (am w3 aa) rfl (zw ?_);refine LoadA.cells (ad w3 aa) rfl (zw ?_);refine LoadV.of ((ah w3 aa) 17 _ rfl) (zw ?_);refine zcv (qqx qs B qs.length c A T.length d a.q a.pl w3 (hB.ext (Z.trans aa)) rfl ag) ?_;rintro r w4 ⟨⟨D2,d2,rfl,aj,ae⟩,ak⟩;have a0:=q6n a.pl a.q qs;obtain⟨U,eU⟩:∃U,U=tasL a.pl a.q qs:=⟨_,rfl⟩
  rw[<-eU]at ai ao ae aj a0|-;refine zu ?_;refine V.Fall.min2 rfl rfl rfl λmn a6=>?_;obtain⟨k,ek⟩:∃k,k=min U.length m:=⟨_,rfl⟩
  obtain rfl:mn=(k:Int):=by omega
  have a1:(U.take m).length=k:=by grind
  refine zu ?_;refine V.SliceV.to 0 k d2 rfl rfl rfl Oo Oo Oo (λh=>by cases h) ?_;rw[qto,Ch,Ch,<-a1];refine zu ?_;refine zcv (qfw (U.take m) D1 D2 d1 d2 w4 (ai.ext ak) (V.SlAt.pre ae m) Oo) ?_;rintro r w5 ⟨rfl,af⟩;refine zu ?_;exact⟨rfl,Z.trans (aa.trans (ak.trans af))⟩
 case inr.inr.inr.inr.inr.inr.inl=>
  refine zu ?_;refine LoadA.cells (ad w2 hr) rfl (zw ?_);refine LoadV.of ((ah w2 hr) 17 _ rfl) (zw ?_);refine LoadV.of ((ah w2 hr) 18 _ rfl) (zw ?_);refine zcv (q11 T qs h x pb vb tb a.q hq a.pl a.pre m au w2 (hX.ext Z) (hG.ext Z)) ?_;rintro r w3 ⟨⟨v,rfl,D1,d1,rfl,ao,ai⟩,aa⟩;refine zu ?_;refine LoadA.own (am w3 aa) rfl (zu ?_);refine LoadA.cells (ad w3 aa) rfl (zu ?_);refine LoadV.of ((ah w3 aa) 17 _ rfl) (zu ?_);refine LoadV.of ((ah w3 aa) 18 _ rfl) (zu ?_);refine zcv (qrb qs B qs.length c A T.length d a.q a.pl a.pre w3 (hB.ext (Z.trans aa)) rfl ag) ?_;rintro r w4 ⟨⟨D2,d2,rfl,aj,ae⟩,ak⟩;have a2:=q1y a.pl a.pre a.q qs;obtain⟨N,eN⟩:∃N,N=begL a.pl a.pre a.q qs:=⟨_,rfl⟩
  rw[<-eN]at ai ao ae aj a2|-;refine zu ?_;refine zcv (qlh D2 (snL qs N).length d2 m w4 aj) ?_;rintro r w5 ⟨rfl,af⟩;have eE:snL qs (N.take m)=(snL qs N).take m:=by rw[snL,snL,CB]
  have aq:(snL qs (N.take m)).length=min (snL qs N).length m:=by grind
  have al:=V.SlAt.pre ae m;rw[<-eE]at al;rw[<-aq];refine zu ?_;refine zcv (qcw (snL qs (N.take m)) D1 D2 d1 d2 w5 (ai.ext (ak.trans af)) (al.ext af) (by rw[aq,qdw];omega)) ?_;rintro r w6 ⟨rfl,an⟩;refine zu ?_;exact⟨rfl,Z.trans (aa.trans (ak.trans (af.trans an)))⟩
 case inr.inr.inr.inr.inr.inr.inr=>
  refine zu ?_
  simp_all
open Go.RowKit Go.Extern.Stop Go.Stop Go.Extern
theorem qp9(t:Addr)(w:DA):(ReflectliteValue.unpack (.iface 128 (.pointer (some t)))).run Tryz.prog w
  = .ok (.agg #[.pointer (some ⟨7,128,none⟩),.pointer (some ⟨w.heap.size,0,none⟩),.int .u64 150]) (w.alloc (.cells #[.pointer (some t)] 128)):=by kernel_rfl
theorem q0r(a:Addr)(w:DA):(ReflectliteValue.methodAny (ReflectliteValue.valueError "reflectlite.Value.Type" 0) (λt _ _ _=>ReflectliteType.toType t) #[.agg #[.pointer (some ⟨7,128,none⟩),.pointer (some a),.int .u64 150]]).run Tryz.prog w
  = .ok (.iface 314 (.agg #[.pointer (some ⟨7,128,none⟩)])) w:=by kernel_rfl
theorem qnd(h:DF)(w:DA):(Go.method 620 314 (.agg #[h]) "Kind").run Tryz.prog w=.ok (410,h) w:=by kernel_rfl
theorem q0q(w:DA):((ReflectliteType.abiMethod λt=>(λa:Nat=>Value.int IntKind.u8 (a:Int)) <$> Rtype.kind t) #[.pointer (some ⟨7,128,none⟩)]).run Tryz.prog w=.ok (.int .u8 22) w:=by kernel_rfl
theorem q0p(w:DA):((ReflectliteType.abiMethod λt=>(λa:Nat=>Value.int IntKind.u8 (a:Int)) <$> Rtype.kind t) #[.pointer (some ⟨7,83,none⟩)]).run Tryz.prog w=.ok (.int .u8 2) w:=by kernel_rfl
theorem rlmN(z:Sem DF)(f:DD->Addr->Nat->Nat->Sem DF)(v:DF):
  ReflectliteValue.method z f #[v]=(do match <-ReflectliteValue.parts v with|none=>z|some (t,a,U)=>f t a U (U%32)):=rfl
theorem ql7(a:Addr)(w:DA):(ReflectliteValue.parts (.agg #[.pointer (some ⟨7,128,none⟩),.pointer (some a),.int .u64 150])).run DM w=.ok (some (128,a,150)) w:=by kernel_rfl
theorem qvf(a p:Addr)(W:DA)(V:W.cell? a=some (.pointer (some p))):
  (ReflectliteValue.method (ReflectliteValue.valueError "reflectlite.Value.IsNil" 0) ReflectliteValue.isNil #[.agg #[.pointer (some ⟨7,128,none⟩),.pointer (some a),.int .u64 150]]).run Tryz.prog W=.ok (.bool false) W:=by
 rw[rlmN];simp only[Sem.run_bind,ql7,Result.andThen];simp[ReflectliteValue.isNil,loadVar,isAgg,underlying,Tryz.underlying128,V,Result.andThen]
theorem qnc(h:DF)(w:DA):(Go.method 620 314 (.agg #[h]) "Elem").run Tryz.prog w=.ok (425,.agg #[h]) w:=by kernel_rfl
theorem qgh(h:DF)(w:DA):(Go.method 620 314 (.agg #[h]) "Implements").run Tryz.prog w=.ok (426,.agg #[h]) w:=by kernel_rfl
theorem qe9(h:DF)(w:DA):(Go.method 620 314 (.agg #[h]) "AssignableTo").run Tryz.prog w=.ok (423,.agg #[h]) w:=by kernel_rfl
theorem q0o(w:DA):(ReflectliteType.method ReflectliteType.elem #[.agg #[.pointer (some ⟨7,128,none⟩)]]).run Tryz.prog w=.ok (.iface 314 (.agg #[.pointer (some ⟨7,83,none⟩)])) w:=by kernel_rfl
theorem qj7(w:DA):(ReflectliteType.relation "Implements" ReflectliteType.implements_ #[.agg #[.pointer (some ⟨7,83,none⟩)],.iface 314 (.agg #[.pointer (some ⟨7,38,none⟩)])]).run Tryz.prog w=.ok (.bool true) w:=by kernel_rfl
theorem qsy(v:DF)(w:DA):(ReflectliteType.typeOf #[.iface 83 v]).run Tryz.prog w=.ok (.iface 314 (.agg #[.pointer (some ⟨7,83,none⟩)])) w:=by kernel_rfl
theorem qj6(w:DA):(ReflectliteType.relation "AssignableTo" ReflectliteType.assignableTo #[.agg #[.pointer (some ⟨7,83,none⟩)],.iface 314 (.agg #[.pointer (some ⟨7,83,none⟩)])]).run Tryz.prog w=.ok (.bool true) w:=by kernel_rfl
theorem qp8(e:Int)(w:DA):(ReflectliteValue.unpack (.iface 83 (ii e))).run Tryz.prog w
  = .ok (.agg #[.pointer (some ⟨7,83,none⟩),.pointer (some ⟨w.heap.size,0,none⟩),.int .u64 130]) (w.alloc (.cells #[ii e] 83)):=by kernel_rfl
theorem qsw(w:DA):(Rtype.elem? 128).run DM w=.ok (some 83) w:=by kernel_rfl
theorem q9o(p:Addr)(w:DA):(ReflectliteValue.mk 83 p ReflectliteValue.flagAddr).run DM w=.ok (.agg #[.pointer (some ⟨7,83,none⟩),.pointer (some p),.int .u64 386]) w:=by kernel_rfl
theorem qve(a p:Addr)(W:DA)(V:W.cell? a=some (.pointer (some p))):
  (ReflectliteValue.method (ReflectliteValue.valueError "reflectlite.Value.Elem" 0) ReflectliteValue.elem #[.agg #[.pointer (some ⟨7,128,none⟩),.pointer (some a),.int .u64 150]]).run Tryz.prog W
   = .ok (.agg #[.pointer (some ⟨7,83,none⟩),.pointer (some p),.int .u64 386]) W:=by
 rw[rlmN];simp only[Sem.run_bind,ql7,Result.andThen];simp[ReflectliteValue.elem,loadVar,isAgg,underlying,Tryz.underlying128,V,Result.andThen,qsw,q9o]
theorem rlsN(v x:DF):ReflectliteValue.set #[v,x]=(do
  let(some (V,a,fl),some (Z,b,_)):=(<-ReflectliteValue.parts v,<-ReflectliteValue.parts x)
   | unsupported (.noEntry "extern/(internal/reflectlite.Value).Set.zeroValue")
  if fl/ReflectliteValue.flagAddr%2==0 then unsupported (.noEntry "extern/(internal/reflectlite.Value).Set.unaddressable")
  let ad <-loadVar Z b
  if <-Rtype.directlyAssignable V Z then storeVar V a ad
  else if <-Rtype.implements V Z then
   if(<-Rtype.kind Z)==20 then
    match ad with
    | .nilIface=>unsupported (.noEntry "extern/reflectlite: a nil value of one interface type handed on as a value of another")
    | _=>storeVar V a ad
   else storeVar V a (.iface Z ad)
  else panicString ("reflectlite.Set: value of type "++(<-Rtype.spelt Z)++ " is not assignable to type "++(<-Rtype.spelt V))
  pure (.tuple #[])):=rfl
theorem qsx(a:Addr)(w:DA):(ReflectliteValue.parts (.agg #[.pointer (some ⟨7,83,none⟩),.pointer (some a),.int .u64 386])).run DM w=.ok (some (83,a,386)) w:=by kernel_rfl
theorem qvg(a:Addr)(w:DA):(ReflectliteValue.parts (.agg #[.pointer (some ⟨7,83,none⟩),.pointer (some a),.int .u64 130])).run DM w=.ok (some (83,a,130)) w:=by kernel_rfl
theorem qsv(w:DA):(Rtype.directlyAssignable 83 83).run DM w=.ok true w:=by kernel_rfl
theorem q5p(U b:Addr)(e:Int)(V:DF)(W:DA)(Z:W.cell? b=some (ii e))(ht:W.cell? U=some V)(hf:W.frozen? U=false):
  (ReflectliteValue.set #[.agg #[.pointer (some ⟨7,83,none⟩),.pointer (some U),.int .u64 386],.agg #[.pointer (some ⟨7,83,none⟩),.pointer (some b),.int .u64 130]]).run Tryz.prog W
   = .ok (.tuple #[]) (W.setCell U (ii e)):=by
 rw[rlsN];simp only[Sem.run_bind,qsx,qvg,Result.andThen];simp[ReflectliteValue.flagAddr,loadVar,isAgg,underlying,Tryz.underlying83,Z,Result.andThen,qsv,storeVar,Value.cells,storeCells,Addr.add];rw[run_store Tryz.prog W U _ _ (by rfl)];simp[ht,hf]
theorem qace(e:Int)(t:Addr)(aa:DF)(w:DA)(hg:w.cell? ⟨0,0,none⟩=some (.iface 314 (.agg #[.pointer (some ⟨7,38,none⟩)])))(ad:w.cell? t=some aa)(af:w.frozen? t=false):
  Calls Tryz.prog 52 #[.iface 83 (ii e),.iface 128 (.pointer (some t))] w λev w'=>ev=.returned (.bool true)/\w'=((((w.alloc (.cells #[.pointer (some t)] 128)).alloc (.cells #[.pointer (some ⟨7,128,none⟩),.pointer (some ⟨w.heap.size,0,none⟩),.int .u64 150] 210)).alloc (.cells #[.pointer (some ⟨7,128,none⟩),.pointer (some ⟨w.heap.size,0,none⟩),.int .u64 150] 210)).alloc (.cells #[ii e] 83)).setCell t (ii e):=by
 have h6:=@run_callFunc_extern Tryz.prog 108 _ (λargs=>ReflectliteValue.unpack (args.getD 0 (.tuple #[]))) Tryz.func108 Jk Jk Jk Jk;have h7:=@run_callFunc_extern Tryz.prog 109 _ (ReflectliteValue.methodAny (ReflectliteValue.valueError "reflectlite.Value.Type" 0) (λt _ _ _=>ReflectliteType.toType t)) Tryz.func109 Jk Jk Jk Jk;have h8:=@run_callFunc_extern Tryz.prog 110 _ (ReflectliteValue.method (ReflectliteValue.valueError "reflectlite.Value.IsNil" 0) ReflectliteValue.isNil) Tryz.func110 Jk Jk Jk Jk;have ah:=@run_callFunc_extern Tryz.prog 410 _ (ReflectliteType.abiMethod λt=>do pure (.int .u8 (<-Rtype.kind t))) Tryz.func410 Jk Jk Jk Jk;have ai:=@run_callFunc_extern Tryz.prog 425 _ (ReflectliteType.method ReflectliteType.elem) Tryz.func425 Jk Jk Jk Jk;have aj:=@run_callFunc_extern Tryz.prog 426 _ (ReflectliteType.relation "Implements" ReflectliteType.implements_) Tryz.func426 Jk Jk Jk Jk;have ak:=@run_callFunc_extern Tryz.prog 182 _ ReflectliteType.typeOf Tryz.func182 Jk Jk Jk Jk;have al:=@run_callFunc_extern Tryz.prog 423 _ (ReflectliteType.relation "AssignableTo" ReflectliteType.assignableTo) Tryz.func423 Jk Jk Jk Jk;have am:=@run_callFunc_extern Tryz.prog 183 _ (ReflectliteValue.method (ReflectliteValue.valueError "reflectlite.Value.Elem" 0) ReflectliteValue.elem) Tryz.func183 Jk Jk Jk Jk;have an:=@run_callFunc_extern Tryz.prog 184 _ ReflectliteValue.set Tryz.func184 Jk Jk Jk Jk;have tO:=qsy;have mA:=qe9;have ao:=qj6;have aq:=qp8;have f6:=qp9;have f7:=q0r;have mK:=qnd;have mE:=qnc;have mI:=qgh;have ar:=q0q;have au:=q0p;have av:=q0o;have aw:=qj7;have n8:=qvf ⟨w.heap.size,0,none⟩ t ((w.alloc (.cells #[.pointer (some t)] 128)).alloc (.cells #[.pointer (some ⟨7,128,none⟩),.pointer (some ⟨w.heap.size,0,none⟩),.int .u64 150] 210)) Js;have ag:0<w.heap.size:=by
  rcases AN 0 w.heap.size with h|h
  ·exact h
  ·simp[World.cell?,Bz h]at hg
 have ax:((w.alloc (.cells #[.pointer (some t)] 128)).alloc (.cells #[.pointer (some ⟨7,128,none⟩),.pointer (some ⟨w.heap.size,0,none⟩),.int .u64 150] 210)).cell? ⟨0,0,none⟩=some (.iface 314 (.agg #[.pointer (some ⟨7,38,none⟩)])):=by
  rw[World.cell?_alloc_lt _ _ ⟨0,0,none⟩ (by simp<;>omega),World.cell?_alloc_lt _ _ ⟨0,0,none⟩ ag];exact hg
 have ae:t.block<w.heap.size:=by
  rcases AN t.block w.heap.size with h|h
  ·exact h
  ·simp[World.cell?,Bz h]at ad
 have el:=qve ⟨w.heap.size,0,none⟩ t (((w.alloc (.cells #[.pointer (some t)] 128)).alloc (.cells #[.pointer (some ⟨7,128,none⟩),.pointer (some ⟨w.heap.size,0,none⟩),.int .u64 150] 210)).alloc (.cells #[.pointer (some ⟨7,128,none⟩),.pointer (some ⟨w.heap.size,0,none⟩),.int .u64 150] 210)) (by rw[World.cell?_alloc_lt _ _ ⟨w.heap.size,0,none⟩ Ys];simp);have st:=q5p t ⟨w.heap.size+1+1+1,0,none⟩ e aa ((((w.alloc (.cells #[.pointer (some t)] 128)).alloc (.cells #[.pointer (some ⟨7,128,none⟩),.pointer (some ⟨w.heap.size,0,none⟩),.int .u64 150] 210)).alloc (.cells #[.pointer (some ⟨7,128,none⟩),.pointer (some ⟨w.heap.size,0,none⟩),.int .u64 150] 210)).alloc (.cells #[ii e] 83))
  (by rw[World.cell?_alloc_at _ _ _ _ Js];rfl)
  (by rw[World.cell?_alloc_lt _ _ t Ys,World.cell?_alloc_lt _ _ t Ys,World.cell?_alloc_lt _ _ t Ys,World.cell?_alloc_lt _ _ t ae];exact ad)
  (by rw[World.frozen?_alloc_old _ _ t Ys,World.frozen?_alloc_old _ _ t Ys,World.frozen?_alloc_old _ _ t Ys,World.frozen?_alloc_old _ _ t (Du ae)];exact af)
 go_enter Tryz.func52,Tryz.ntmps52
 go_wp2
 refine wp_loop_rounds 1 ?_;rw[rounds_succ]
 go_wp2
 go_ret
 exact⟨rfl,rfl⟩
theorem qzf(n:Int)(U:Nat){V:DF}(hm:Mem w0 w L)(hi:L[i]?=some (U,.cells #[V] 83))(hg:ErrTyp w):
  Gv DM 52 [.iface 83 (ii n),.iface 128 (pp U)] w λr Z=>r=.bool true/\Mem w0 Z (L.set i (U,.cells #[ii n] 83))/\
   ∃w4,Ext w w4/\∀c,c≠U->Z.heap[c]?=w4.heap[c]?:=by
 have hb:=hm.get (zmg hi);refine qe4 Jk ((qace n ⟨U,0,none⟩ V w hg (by rw[qa hb];rfl) (by simp[World.frozen?,hb])).mono ?_);rintro r Z ⟨rfl,hw⟩;refine⟨_,rfl,rfl,?_,_,(((((Ext.refl w).alloc _).alloc _).alloc _).alloc _),λc hc=>by subst hw;exact Below.heap_setCell _ _ _ _ hc⟩;exact(hm.call (((((Ext.refl w).alloc _).alloc _).alloc _).alloc _)).setCell hi hw
theorem qrt(w:DA):Gv DM 16 [.nilIface] w λr U=>r=.tuple #[ii 0,ii 0]/\Ext w U:=by
 refine ze Tryz.func16 Tryz.ntmps16 ?_;refine zv ?_;exact⟨rfl,xr⟩
theorem qrs(e:DF)(p n:Nat)(w:DA)(h:ErrAt w e p n)(hG:ErrTyp w):Gv DM 16 [e] w λr w'=>r=.tuple #[ii p,ii n]/\Ext w w':=by
 obtain⟨b,rfl,hc⟩:=h;have am:b<w.heap.size:=by
  rcases AN b w.heap.size with g|g
  ·exact g
  ·have:=hc 0 _ rfl;rw[World.cell?]at this;simp[Bz g]at this
 refine ze Tryz.func16 Tryz.ntmps16 ?_;refine zv ?_;refine znm (Mem.nil w) ?_;intro pb w1 U;refine znm U ?_;clear U;intro eb w2 U;have ah:=(U.own _ (zmc (Aq.2 rfl))).1;have ai:=(U.own _ mh).1;have aj:=U.nodup;have an:pb≠eb:=λe=>by subst e;simp at aj
 dsimp only at ah ai;refine zcv (qk8 b pb U (i:=1) rfl (hG.ext U.ext)) ?_;rintro r w3 ⟨rfl,aa,ao,ad,V⟩;have ae:CellsAt w3 b 0 [ii p,.iface 83 (ii n)]:=(CellsAt.ext hc (U.ext.trans ad)).other (x:=pb) Oo V;replace U:Mem w w3 [(eb,.cells #[ii 0] 83),(pb,.cells #[pp b] 123)]:=aa;clear aa V ad;refine zu ?_;refine zr U 1 ?_;refine zv ?_;refine zr U 1 ?_;refine zv ?_;refine LoadV.of (ae 1 _ rfl) (zu ?_);refine zcv (qzf n eb U (i:=0) rfl (hG.ext U.ext)) ?_;rintro r w4 ⟨rfl,af,aq,ag,Z⟩;have ak:CellsAt w4 b 0 [ii p,.iface 83 (ii n)]:=(CellsAt.ext ae ag).other (x:=eb) Oo Z;replace U:Mem w w4 [(eb,.cells #[ii n] 83),(pb,.cells #[pp b] 123)]:=af;clear af Z ag;refine zu ?_;refine DrawV.free Jk Jk (zw ?_);refine zLd ?_;refine zd ?_;refine zd ?_;refine zf ?_ (by intro wd hd;(conv=>whnf);refine LoadV.of (Ext.cell (Ext.trans (Ext.drew xr) hd) (ak 0 _ rfl)) ?_;(conv=>whnf);exact xq);refine zLd ?_;refine zd ?_;refine zd ?_;intro w5 al;(conv=>whnf);exact⟨rfl,U.drew.ext.trans al⟩
theorem qom(l:LB)(A:oA)(c:Nat)(w:DA)(hS:SlAt encB 1 w A l)(hc:l.length<=c)(hl:l.length<=140737488351232):
  Gv DM 15 [.slice A l.length c] w λv Z=>v=.tuple #[infP l,fltV (packE l).1 (packE l).2]/\Ext w Z:=by
 refine ze Tryz.func15 Tryz.ntmps15 ?_;refine znm (Mem.nil w) λr2 w1 U=>zw ?_;refine znm U λr3 w2 U=>zw ?_;refine zcv (qnv l A _ c w2 (hS.ext U.ext) rfl hc Oo) ?_;rintro v w3 ⟨rfl,ai⟩;have U:=U.call ai
 by_cases V:(qt l).2=0
 ·have hH:qeq l=[ii (hN l 2),ii (hN l 3),ii (hN l 4),ii (hN l 5)]:=by rw[qeq,Ab V]
  have aa:=qye V;obtain⟨al,am⟩:=qep V;rw[hH];(conv=>whnf);refine znm U λh4 w4 U=>zw ?_;refine znm U λf5 w5 U=>zw ?_;refine zS U 1 λw6 U=>zw ?_;refine zS U 0 λw7 U=>zw ?_;refine zr U 0 ?_;refine zv ?_;refine zr U 1 ?_;refine zv ?_;refine SliceV.to 28 (28+hN l 4) c rfl rfl rfl Oo Oo Oo (λh=>by cases h) ?_;rw[show tsz DM 5=1 from by kernel_rfl,show 28+hN l 4-28=(qi l).length by rw[qct V];omega];have U:Mem w w7 ((f5,.cells #[ii (0:Int),ii (0:Int)] 55)::(h4,.cells #[ii (hN l 2:Nat),ii (hN l 3:Nat),ii (hN l 4:Nat),ii (hN l 5:Nat)] 53)::(r3,.cells #[ii (0:Int),ii (0:Int)] 55)::(r2,.cells #[ii 0,ii 0,ii 0,ii 0] 53)::[]):=by
   rw[qxu V]at U;exact U
  have hV:=qwk (qi l) (if c=28 then A else A.map (·.add (28*1))) (c-28) w7 ((qsj hS hc V).ext U.ext) (by rw[qct V];omega) (by rw[qct V];omega);(conv=>whnf);refine zcv (hV) ?_;clear hV;rintro v w8 ⟨⟨hE,G,rfl⟩|⟨hE,G,hG,rfl⟩,ae⟩
  ·have U:=U.call ae;have af:=qaho (qi l);rw[qct V]at af;have hP:packE l=((wE (qi l)).1+28,(wE (qi l)).2):=by rw[aa,fpE,Ab hE]
   unfold fltV;(conv=>whnf);refine zS U 0 λw9 U=>zw ?_;refine zr U 0 ?_;refine zv ?_;refine zr U 0 ?_;refine zr U 0 ?_;refine zcv (qeu 28 ((wE (qi l)).1:Nat) ((wE (qi l)).2:Nat) w9 Oo Oo) ?_;rintro v wa ⟨rfl,ad⟩;have U:=U.call ad;unfold fltV;(conv=>whnf);refine zS U 3 λwb U=>zw ?_;refine zS U 2 λwc U=>zw ?_;refine qd (R:=λv Z=>v=.tuple #[infP l,fltV (packE l).1 (packE l).2]/\Ext w Z) (zw ?_);refine zl U 3 ?_;refine zl U 2 ?_;refine⟨?_,U.ext⟩;rw[infP,Aa (by rw[hP];exact hE),hP];show _=Value.tuple #[_,.agg #[ii (((wE (qi l)).1+28:Nat):Int),ii ((wE (qi l)).2:Nat)]];rw[show(((wE (qi l)).1+28:Nat):Int)=28+((wE (qi l)).1:Nat)by omega];rfl
  ·have U:=U.call ae;unfold fltV;(conv=>whnf);refine zS U 0 ?_;clear U;intro w9 U;have U:Mem w w9 ((f5,.cells #[ii (0:Int),ii (0:Int)] 55)::(h4,.cells #[ii (hN l 2:Nat),ii (hN l 3:Nat),ii (hN l 4:Nat),ii (hN l 5:Nat)] 53)::(r3,.cells #[ii (0:Int),ii (0:Int)] 55)::(r2,.cells #[ii 0,ii 0,ii 0,ii 0] 53)::[]):=U;(conv=>whnf);refine zr U 0 ?_;refine zv ?_;refine zr U 1 ?_;refine zv ?_;refine zr U 1 ?_;refine zv ?_;refine SliceV.to (32+hN l 4) (32+hN l 4+hN l 5) c (qgv Oo) (qgv Oo) rfl Oo Oo Oo (λh=>by cases h) ?_;rw[show tsz DM 5=1 from by kernel_rfl,show 32+hN l 4+hN l 5-(32+hN l 4)=(qk l).length by rw[qds V];omega];have hT:=qtd (qk l) (if c=32+hN l 4 then A else A.map (·.add ((32+hN l 4)*1))) (qk l).length (c-(32+hN l 4)) w9 ((qyd hS hc V).ext U.ext) rfl (by rw[qds V];omega) (by rw[qds V];omega);(conv=>whnf);refine zcv (hT) ?_;clear hT;rintro v an ⟨⟨hT,H,rfl⟩|⟨hT,H,ao,rfl⟩,ag⟩
   all_goals
    have U:=U.call ag;unfold fltV hdV;(conv=>whnf);refine znm U λt7 aq U=>zw ?_;refine znm U λt8 ar U=>zw ?_;refine StoreA.all U (i:=1) rfl rfl (qa4 13 H) λau U=>zw ?_;refine zS U 0 λaj U=>zw ?_;refine zr U 0 ?_;refine zv ?_
   ·have ah:=qag9 (qk l);rw[qds V]at ah;have hP:packE l=((tE (qk l)).1+(32+hN l 4),(tE (qk l)).2):=by rw[aa,fpE,Aa Oo,Ab hT]
    refine zr U 0 ?_;refine zr U 0 ?_;refine zcv (qeu _ ((tE (qk l)).1:Nat) ((tE (qk l)).2:Nat) aj Oo Oo) ?_;rintro v wa ⟨rfl,ad⟩;have U:=U.call ad;unfold fltV;(conv=>whnf);refine zS U 5 λwb U=>zw ?_;refine zS U 4 λwc U=>zw ?_;refine qd (R:=λv Z=>v=.tuple #[infP l,fltV (packE l).1 (packE l).2]/\Ext w Z) (zw ?_);refine zl U 5 ?_;refine zl U 4 ?_;refine⟨?_,U.ext⟩;rw[infP,Aa (by rw[hP];exact hT),hP];show _=Value.tuple #[_,.agg #[ii (((tE (qk l)).1+(32+hN l 4):Nat):Int),ii ((tE (qk l)).2:Nat)]];rw[show(((tE (qk l)).1+(32+hN l 4):Nat):Int)=28+((hN l 4:Nat):Int)+4+((tE (qk l)).1:Nat)by omega];rfl
   ·have hP:packE l=(0,0):=by rw[aa,fpE,Aa Oo,Aa Oo]
    refine zl U 3 ?_;refine zS U 5 λwb U=>zw ?_;refine zS U 4 λwc U=>zw ?_;refine qd (R:=λv Z=>v=.tuple #[infP l,fltV (packE l).1 (packE l).2]/\Ext w Z) (zw ?_);refine zl U 5 ?_;refine zl U 4 ?_;refine⟨?_,U.ext⟩;rw[infP,Ab (by rw[hP]),hP];rfl
 ·have hP:packE l=qt l:=by rw[packE,Ab V]
  have hH:qeq l=[ii 0,ii 0,ii 0,ii 0]:=by rw[qeq,Aa V]
  rw[hH];(conv=>whnf);refine znm U λh4 w4 U=>zw ?_;refine znm U λf5 w5 U=>zw ?_;refine zS U 1 λw6 U=>zw ?_;refine zS U 0 λw7 U=>zw ?_;refine zr U 0 ?_;refine zv ?_;refine DrawV.inv (λS Z=>Mem w Z ((f5,.cells #[ii ((qt l).1:Nat),ii ((qt l).2:Nat)] 55)::(h4,.cells #[ii 0,ii 0,ii 0,ii 0] 53)::(r3,(bif S 3 then .cells #[ii ((qt l).1:Nat),ii ((qt l).2:Nat)] 55 else .cells #[ii (0:Int),ii (0:Int)] 55))::(r2,.cells #[ii 0,ii 0,ii 0,ii 0] 53)::[])) rfl Jk U.drew ?_;clear U;(conv=>whnf);refine zi ?_;refine zLi ?_;refine StepI.of undef (λS wd hk hp hI=>zw ?_) (zw ?_)
  ·refine zS hI 3 λwx ak=>zw ?_;exact⟨rfl,ak⟩
  refine zSi ?_;intro wz U;have U:Mem w wz ((f5,.cells #[ii ((qt l).1:Nat),ii ((qt l).2:Nat)] 55)::(h4,.cells #[ii 0,ii 0,ii 0,ii 0] 53)::(r3,.cells #[ii ((qt l).1:Nat),ii ((qt l).2:Nat)] 55)::(r2,.cells #[ii 0,ii 0,ii 0,ii 0] 53)::[]):=U;(conv=>whnf);refine qd (R:=λv Z=>v=.tuple #[infP l,fltV (packE l).1 (packE l).2]/\Ext w Z) (zw ?_);refine zl U 3 ?_;refine zl U 2 ?_;refine⟨?_,U.ext⟩;rw[infP,Aa (by rw[hP];exact V),hP];rfl
structure Turn(l l':LB)(f B:Nat):Prop where
 len:l'.length=l.length
 bit:∀t,t<8*l.length->bitN l' t=(bitN l t+(if f<=t/\t<f+32 then B/2 ^ (t-f)%2 else 0))%2
section
variable {l l':LB} {f B:Nat} (h:Turn l l' f B)
include h
end
theorem EncOk.packE{T:List TM}{U:List Q4}(h:EncOk T U):(packE (encP T U)).2=0:=by
 have V:=h.poE;obtain⟨Z,_,_,_,h5,_⟩:=qci (l:=encP T U) (by rw[V]);rw[Go.Proofs.YtccmcfpmknpccaaGreatDoor.packE,Aa (λg=>g Z),h.v,Aa (λg=>g h.voc.wE),Aa (λg=>g (qb6 h5).1)]
theorem q3s(l:LB):∃U V Z i3:Int,infP l=.agg #[ii U,ii V,ii Z,ii i3]:=by
 unfold infP
 split
 ·exact⟨_,_,_,_,rfl⟩
 ·exact⟨_,_,_,_,rfl⟩
theorem qmk(l:LB)(A:oA)(c:Nat)(Ls:List AskE)(A2:oA)(c2:Nat)(w:DA)(hS:SlAt encB 1 w A l)(hc:l.length<=c)(hl:l.length<=140737488351232)(a0:SlAt askC 20 w A2 Ls)(bf:Ls.length<=140737488355328)(a1:∀a∈Ls,q7k a)(a2:GlobS w)(hT:CellsAt w 3 0 qlu)(hG:ErrTyp w):
  Gv DM 4 [.slice A l.length c,.slice A2 Ls.length c2] w λr w'=>r=.bool true/\Ext w w':=by
 have a3:tsz DM 49=20:=by kernel_rfl
 have a4:(poE l).2=0->(packE l).2=0:=λh0=>by
  have e:=qrf h0;have:=(q2b h0).packE
  rwa[<-e]at this
 obtain⟨i0,i1,i2,i3,eI⟩:=q3s l;refine ze Tryz.func4 Tryz.ntmps4 ?_;refine zcv (qzz l A c w hS hl) ?_;rintro v w1 ⟨hL,ar⟩;obtain⟨g,ev,bg,a5⟩:=id hL;rw[ev]at hL|-;clear ev;have a6:SlAt encB 1 w1 (some ⟨g,0,none⟩) l:=qabv a5;(conv=>whnf);refine zcv (q6a l (some ⟨g,0,none⟩) (l.length+2) w1 a6 Oo Oo (CellsAt.ext hT ar) (hG.ext ar)) ?_;rintro v w2 ⟨hO,al⟩;have ae:=ar.trans al
 rcases hO with⟨a7,e,rfl,an⟩|⟨hz,x,rfl,av⟩
 ·obtain⟨eb,rfl,-⟩:=id an;have ag:=qom l A c w2 (hS.ext ae) hc hl;rw[eI]at ag;(conv=>whnf);refine zcv (ag) ?_;rintro v w3 ⟨rfl,aa⟩;unfold fltV;(conv=>whnf);refine znm (Mem.nil w3) λb8 w4 U=>zw ?_;refine znm U λb9 w5 U=>zw ?_;refine zS U 1 λw6 U=>zw ?_;refine zS U 0 ?_;clear U;intro w7 U;have ah:=ae.trans (aa.trans U.ext);(conv=>whnf);refine zcv (qrs _ _ _ w7 (an.ext (aa.trans U.ext)) (hG.ext ah)) ?_;rintro v w8 ⟨rfl,af⟩;have U:=U.call af;(conv=>whnf);refine zr U 0 ?_;refine zv ?_;refine zr U 0 ?_;refine zv ?_;rw[show decide (((packE l).2:Int)≠0)=true from At Oo];refine zu ?_;refine zcv (qn3 l A c w8 (hS.ext (ah.trans af)) hc hl) ?_;rintro v w9 ⟨⟨hP,_,_,_,_,_,_,rfl⟩|⟨hP,-⟩,ai⟩
  ·have U:=U.call ai;(conv=>whnf);refine znm U λaj wa U=>zw ?_;refine zS U 0 ?_;clear U;intro wb U;have V:=ae.trans (aa.trans U.ext);refine zu ?_;refine zcv (qil l _ _ A c wb (hL.ext (al.trans (aa.trans U.ext))) (hS.ext V) hl) ?_;rintro v wc ⟨rfl,ak⟩;(conv=>whnf);exact⟨rfl,V.trans ak⟩
  ·exact absurd (a4 hP) a7
 ·have ag:=qom l A c w2 (hS.ext ae) hc hl;rw[eI,hz]at ag;(conv=>whnf);refine zcv (ag) ?_;rintro v w3 ⟨rfl,aa⟩;unfold fltV;(conv=>whnf);refine znm (Mem.nil w3) λb8 w4 U=>zw ?_;refine znm U λb9 w5 U=>zw ?_;refine zS U 1 λw6 U=>zw ?_;refine zS U 0 ?_;clear U;intro w7 U;have ah:=ae.trans (aa.trans U.ext);(conv=>whnf);refine zcv (qrt w7) ?_;rintro v w8 ⟨rfl,af⟩;have U:=U.call af;(conv=>whnf);refine zr U 0 ?_;refine zv ?_;refine zcv (qn3 l A c w8 (hS.ext (ah.trans af)) hc hl) ?_;rintro v w9 ⟨⟨hP,_,_,_,_,_,_,rfl⟩|⟨hP,TA,dT,QB,dQ,rfl,aw,ax⟩,ai⟩
  ·have U:=U.call ai;(conv=>whnf);refine znm U λaj wa U=>zw ?_;refine zS U 0 ?_;clear U;intro wb U;have V:=ae.trans (aa.trans U.ext);refine zu ?_;refine zcv (qil l _ _ A c wb (hL.ext (al.trans (aa.trans U.ext))) (hS.ext V) hl) ?_;rintro v wc ⟨rfl,ak⟩;(conv=>whnf);exact⟨rfl,V.trans ak⟩
  ·obtain⟨T,eT⟩:∃T,T=vTms (qi l):=⟨_,rfl⟩
   obtain⟨qs,eq⟩:∃qs,qs=qsP l:=⟨_,rfl⟩
   have hE:=q2b hP;have hB:=qrf hP;obtain⟨pb,vb,tb,hX⟩:=av.e;rw[hB]at hX;rw[<-eT,<-eq]at hE hX|-;rw[<-eq]at aw;rw[<-eT]at ax;have a8:=ah.trans (af.trans ai);have ao:=(aa.trans U.ext).trans ai;clear U;(conv=>whnf);refine znm (Mem.nil w9) λaj wa U=>zw ?_;refine zS U 0 ?_;clear U;intro wb U;have U:Mem w9 wb [(aj,.cells #[.slice QB qs.length dQ,.slice TA T.length dT] 30)]:=U;have V:=a8.trans U.ext;refine zu ?_;refine qq (λi:Nat=>[(0,.slice A l.length c),(1,.slice A2 Ls.length c2),(5,.slice (some ⟨g,0,none⟩) l.length (l.length+2)),(6,pp x),(12,pp aj),(14,ii i)]) (λi w'=>i<=Ls.length/\Ext wb w') (λi=>Ls.length-i) 0 fq ⟨Af _,xr⟩ ?_;rintro i w4 bh ⟨hi,am⟩;(conv=>whnf);refine zC (λ_=>zw ?_) (λ_=>zw ?_)
   case' refine_2=>
    refine zcv (qil l _ _ A c w4 (hL.ext (al.trans (ao.trans (U.ext.trans am)))) (hS.ext (V.trans am)) hl) ?_;rintro v wc ⟨rfl,ak⟩;(conv=>whnf);exact⟨rfl,V.trans (am.trans ak)⟩
   have au:i<Ls.length:=by omega
   obtain⟨a,ha⟩:∃a,Ls[i]?=some a:=⟨_,zge au⟩
   have aq:=a1 a (zmg ha);obtain⟨g2,ay,rfl,a9⟩:=a0.at_ (by intro e;rw[e]at au;simp at au);have ba:=a9 i a ha;have ad:∀Z,Ext w4.drew Z->Ext wb Z:=λZ hd=>am.trans ((Ext.refl w4).drew.trans hd)
   have az:∀Z,Ext w4.drew Z->Z.heap[aj]?=some (.cells #[.slice QB qs.length dQ,.slice TA T.length dT] 30):=λZ hd=>(ad Z hd).get (U.get mh)
   refine DrawV.free Jk Jk (zw ?_);refine zsd (pp x) (λZ hd=>zw ?_) (zw ?_)
   ·exact xq
   refine zsd (.agg #[.slice QB qs.length dQ,.slice TA T.length dT]) (λZ hd=>zw ?_) (zw ?_)
   ·refine LoadA.own (az Z hd) rfl (zw ?_);exact xq
   refine zd ?_;refine zd ?_;refine zsd (.pointer (some ⟨g2,ay+i*20,none⟩)) (λZ hd=>zw ?_) (zw ?_)
   ·refine⟨⟨g2,ay,i,rfl,by omega,by omega,?_⟩⟩;rw[a3];(conv=>whnf);exact xq
   refine zsd (askV a) (λZ hd=>zw ?_) (zw ?_)
   ·refine LoadA.cells (CellsAt.ext ba (V.trans (ad Z hd))) rfl (zw ?_);exact xq
   apply zsd (.bool true)
   ·intro Z hd;have bb:=V.trans (ad Z hd);(conv=>whnf);refine zcv (q1x T qs hE x pb vb tb QB dQ TA dT a aq.1 aq.2 Z (hX.ext (ao.trans (U.ext.trans (ad Z hd)))) (a2.ext bb) (aw.ext (U.ext.trans (ad Z hd))) (ax.ext (U.ext.trans (ad Z hd)))) ?_;rintro r wy ⟨rfl,bd⟩;exact⟨bd,rfl⟩
   (conv=>whnf);refine zd (zw ?_);intro w5 be;refine zu ?_;exact⟨i+1,⟨rfl,rfl,rfl,rfl,rfl,Ad (Value.int .i64) Oo,trivial⟩,⟨by omega,ad w5 be⟩,by omega⟩
end Go.Proofs.YtccmcfpmknpccaaGreatDoor
