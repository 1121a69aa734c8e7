/- Lemmas and contracts of functions on the way to the law's card (part 18 of 20). -/
import Derived.Test.YtccmcfpmknpccaaGreatDoorSA17
import Derived.Lib.LaidTab
import Derived.Test.YtccmcfpmknpccaaGreatDoorRows
import Derived.Deep.DeepHandedRow
import Derived.ProofKit
import Derived.OpenShut
import Derived.LaidHandle
import Derived.Shelf.Vars
import Derived.Test.YtccmcfpmknpccaaGreatDoorCards
namespace Go.Proofs.YtccmcfpmknpccaaGreatDoor
set_option maxHeartbeats 8000000
open Go.RowKit
variable {P:DW} {W w:DU} {base c g i k nb:Nat} {e:DX} {xs:Ee} {A:oA} {l:LB} {u:DZ} {K:Ea} {S:List Bool} {Q:Nat->Nat->Nat}
namespace V
theorem qx8{P:DW}{w:DU}:∀{l:List (String×DataW Unit)} {Z:List MemPlace},DataW.LaidVars P w l Z->∀{n:String} {d:DataW Unit},(n,d)∈l->
  ∃g t U fuel p,P.globalNamed n=some g/\(P.globals[g]?).map (·.type)=some t/\w.var? P n=some U/\DataW.trod (λ_=>()) P w 0 (λ_=>true) false fuel t U.toList=some (d,p)
 | [],_,_,_,_,h=>by cases h
 | (n0,d0)::r,Z,h,n,d,V=>by
  obtain⟨g,t,U,fuel,p,q,h1,h2,h3,h4,h5,_⟩:=h
  rcases AB.1 V with e|V
  ·cases e;exact⟨g,t,U,fuel,p,h1,h2,h3,h4⟩
  ·exact qx8 h5 V
theorem qqa{name:String}{k:IntKind}{zs:List Int}{l:List (String×DataW Unit)}{t:DX}{n:Nat}(hg:P.globalNamed name=some g)(V:(P.globals[g]?).map (·.type)=some t)(ht:P.underlying t=some (.array n e))(he:P.underlying e=some (.int k))(Z:P.cellsOf e=1)(aa:P.cellsOf t=n)(h:laidMet P l W)(hm:(name,Lib.tabData k zs)∈l):CellsAt W g 0 (zs.map λz=>Value.int k z):=by
 obtain⟨ps,h,_⟩:=h;obtain⟨g',t',cs,fuel,p,ad,ae,U,hd⟩:=qx8 h hm;obtain rfl:=Bb (hg.symm.trans ad);obtain rfl:=Bb (V.symm.trans ae);have hT:Lib.TabIs P W name k zs:=by
  unfold Lib.TabIs;rw[U,<-Lib.cells_of_tab ht he Z aa hd]
 intro i v hv;have hi:i<zs.length:=by simpa using(Af.1 hv).1
 have:=hT.cell hg i hi;rw[As,this];rw[Ao,zge hi]at hv;rw[Ah,zge hi]
 simpa using hv
end V
open Go.ChangeShapes Go.WideShapes Go.ChangeAt Go.RowKit
theorem own:ownKnob Eg.godebug=none:=by kernel_rfl
theorem q91:laidOutB Eg=true:=by kernel_rfl
mutual
def qacn:DataW Unit->Ee
 | .lit (.int k n)=>[.int k n]
 | .agg l=>cellsDs l
 | _=>[]
def cellsDs:List (DataW Unit)->Ee
 | []=>[]
 | d::l=>qacn d++cellsDs l
end
def qaji(w:DU)(x:Nat×DataW Unit):DU:=
 { w with heap:=w.heap.modify x.1 fun
   | .cells _ t frozen=>.cells (qacn x.2).toArray t frozen
   | o=>o }
noncomputable def qajh(U:Os)(l:List (Nat×DataW Unit)):DU:=l.foldl qaji (World.holding Eg U ⟨#[],#[],[]⟩)
open Go.ChangeShapes Go.WideShapes Go.ChangeAt Go.RowKit V
set_option maxHeartbeats 8000000
set_option maxRecDepth 100000
theorem qll:Eg.cellsOf 45=4:=by kernel_rfl
theorem qui:Eg.cellsOf 47=16:=by kernel_rfl
theorem qaei:Eg.bytesOf 47=224:=by kernel_rfl
theorem qxk:Eg.cellsOf 49=20:=by kernel_rfl
theorem q8m:Eg.bytesOf 49=264:=by kernel_rfl
theorem q2j:Eg.cellsOf 4=1:=by kernel_rfl
theorem q2c:Eg.bytesOf 4=1:=by kernel_rfl
section
variable {H:Type} {enc:DX×DZ->H} {W:DU}
theorem qk0{c:DZ}(h:Opn enc Eg W 9 [c]):∃s:DV,c=.string s/\s.size<=140737488355328:=h.string Tryz.underlying9
theorem qie{cs:Ee}(h:Opn enc Eg W 45 cs):∃t:TM,cs=encT t/\TermOk t:=by
 obtain⟨hl,hf⟩:=Opn.fields Tryz.underlying45 h;rw[qll]at hl
 match cs,hl with
 | [U,V,Z,c3],_=>
  have g0:Opn enc Eg W 3 (([U,V,Z,c3].drop 0).take (Eg.cellsOf 3)):=hf 0 _ rfl;rw[qkp]at g0;have g1:Opn enc Eg W 9 (([U,V,Z,c3].drop 1).take (Eg.cellsOf 9)):=hf 1 _ rfl;rw[qkq]at g1;have g2:Opn enc Eg W 9 (([U,V,Z,c3].drop 2).take (Eg.cellsOf 9)):=hf 2 _ rfl;rw[qkq]at g2;have g3:Opn enc Eg W 9 (([U,V,Z,c3].drop 3).take (Eg.cellsOf 9)):=hf 3 _ rfl;rw[qkq]at g3;obtain⟨n0,rfl,k0⟩:=Opn.int (c:=U) Tryz.underlying3 g0;obtain⟨n1,rfl,k1⟩:=qk0 (c:=V) g1;obtain⟨n2,rfl,k2⟩:=qk0 (c:=Z) g2;obtain⟨n3,rfl,k3⟩:=qk0 (c:=c3) g3;exact⟨⟨n0,n1,n2,n3⟩,rfl,⟨qac0 k0,k1,k2,k3⟩⟩
theorem qsw{cs:Ee}(h:Opn enc Eg W 47 cs):∃q:Q4,cs=qf q/\qa5 q:=by
 obtain⟨hl,hf⟩:=Opn.fields Tryz.underlying47 h;rw[qui]at hl
 match cs,hl with
 | [U,V,Z,a3,b0,b1,b2,b3,c0,c1,c2,c3,d0,d1,d2,d3],_=>
  have g0:Opn enc Eg W 45 (([U,V,Z,a3,b0,b1,b2,b3,c0,c1,c2,c3,d0,d1,d2,d3].drop 0).take (Eg.cellsOf 45)):=hf 0 _ rfl;rw[qll]at g0;have g1:Opn enc Eg W 45 (([U,V,Z,a3,b0,b1,b2,b3,c0,c1,c2,c3,d0,d1,d2,d3].drop 4).take (Eg.cellsOf 45)):=hf 1 _ rfl;rw[qll]at g1;have g2:Opn enc Eg W 45 (([U,V,Z,a3,b0,b1,b2,b3,c0,c1,c2,c3,d0,d1,d2,d3].drop 8).take (Eg.cellsOf 45)):=hf 2 _ rfl;rw[qll]at g2;have g3:Opn enc Eg W 45 (([U,V,Z,a3,b0,b1,b2,b3,c0,c1,c2,c3,d0,d1,d2,d3].drop 12).take (Eg.cellsOf 45)):=hf 3 _ rfl;rw[qll]at g3;obtain⟨t0,e0,k0⟩:=qie (cs:=[U,V,Z,a3]) g0;obtain⟨t1,e1,k1⟩:=qie (cs:=[b0,b1,b2,b3]) g1;obtain⟨t2,e2,k2⟩:=qie (cs:=[c0,c1,c2,c3]) g2;obtain⟨t3,e3,k3⟩:=qie (cs:=[d0,d1,d2,d3]) g3;simp only[encT,List.cons.injEq]at e0 e1 e2 e3;obtain⟨rfl,rfl,rfl,rfl,_⟩:=e0;obtain⟨rfl,rfl,rfl,rfl,_⟩:=e1;obtain⟨rfl,rfl,rfl,rfl,_⟩:=e2;obtain⟨rfl,rfl,rfl,rfl,_⟩:=e3;refine⟨⟨t0,t1,t2,t3⟩,rfl,λk=>?_⟩
  match k with
  | 0=>exact k0
  | 1=>exact k1
  | 2=>exact k2
  | k+3=>exact k3
noncomputable instance:Inhabited Q4:=⟨zQ⟩
theorem qoh{c:DZ}(h:Opn enc Eg W 22 [c]):
  ∃(A:oA) (U:Nat) (l:List Q4),c=.slice A l.length U/\l.length<=140737488355328/\(∀q∈l,qa5 q)/\SlAt qf 16 W A l:=by
 obtain⟨A,U,l,Z,h2,h3,h4,h5⟩:=h.sliceR (en:=qf) (R:=qa5) (size:=16) Tryz.underlying22 qui Od qmp (λcs hc=>qsw hc);rw[qaei]at h3;exact⟨A,U,l,Z,by omega,h4,h5⟩
noncomputable instance:Inhabited AskE:=⟨⟨0,zQ,0,⟨#[]⟩,0⟩⟩
theorem qaak{cs:Ee}(h:Opn enc Eg W 49 cs):∃a:AskE,cs=askC a/\q7z a:=by
 obtain⟨hl,hf⟩:=Opn.fields Tryz.underlying49 h;rw[qxk]at hl
 match cs,hl with
 | [U,V,Z,a2,a3,b0,b1,b2,b3,c0,c1,c2,c3,d0,d1,d2,d3,p0,s0,m0],_=>
  have g0:Opn enc Eg W 3 (([U,V,Z,a2,a3,b0,b1,b2,b3,c0,c1,c2,c3,d0,d1,d2,d3,p0,s0,m0].drop 0).take (Eg.cellsOf 3)):=hf 0 _ rfl;rw[qkp]at g0;have g1:Opn enc Eg W 47 (([U,V,Z,a2,a3,b0,b1,b2,b3,c0,c1,c2,c3,d0,d1,d2,d3,p0,s0,m0].drop 1).take (Eg.cellsOf 47)):=hf 1 _ rfl;rw[qui]at g1;have g2:Opn enc Eg W 3 (([U,V,Z,a2,a3,b0,b1,b2,b3,c0,c1,c2,c3,d0,d1,d2,d3,p0,s0,m0].drop 17).take (Eg.cellsOf 3)):=hf 2 _ rfl;rw[qkp]at g2;have g3:Opn enc Eg W 9 (([U,V,Z,a2,a3,b0,b1,b2,b3,c0,c1,c2,c3,d0,d1,d2,d3,p0,s0,m0].drop 18).take (Eg.cellsOf 9)):=hf 3 _ rfl;rw[qkq]at g3;have g4:Opn enc Eg W 3 (([U,V,Z,a2,a3,b0,b1,b2,b3,c0,c1,c2,c3,d0,d1,d2,d3,p0,s0,m0].drop 19).take (Eg.cellsOf 3)):=hf 4 _ rfl;rw[qkp]at g4;obtain⟨n0,rfl,h0⟩:=Opn.int (c:=U) Tryz.underlying3 g0;obtain⟨q,eq,hq⟩:=qsw (cs:=[V,Z,a2,a3,b0,b1,b2,b3,c0,c1,c2,c3,d0,d1,d2,d3]) g1;obtain⟨n2,rfl,h2⟩:=Opn.int (c:=p0) Tryz.underlying3 g2;obtain⟨n3,rfl,h3⟩:=qk0 (c:=s0) g3;obtain⟨n4,rfl,h4⟩:=Opn.int (c:=m0) Tryz.underlying3 g4;refine⟨⟨n0,q,n2,n3,n4⟩,?_,hq,qac0 h4⟩;show _=ii n0::(qf q++[ii n2,.string n3,ii n4]);rw[<-eq];rfl
theorem q5n{c:DZ}(h:Opn enc Eg W 23 [c]):
  ∃(A:oA) (U:Nat) (l:List AskE),c=.slice A l.length U/\l.length<=140737488355328/\(∀a∈l,q7z a)/\SlAt askC 20 W A l:=by
 obtain⟨A,U,l,Z,h2,h3,h4,h5⟩:=h.sliceR (en:=askC) (R:=q7z) (size:=20) Tryz.underlying23 qxk Od q8a (λcs hc=>qaak hc);rw[q8m]at h3;exact⟨A,U,l,Z,by omega,h4,h5⟩
theorem q0m{c:DZ}(h:Opn enc Eg W 24 [c]):
  ∃(A:oA) (U:Nat) (l:List Bool),c=.slice A l.length U/\l.length<=140737488355328/\SlAt qaez 1 W A l:=by
 obtain⟨A,U,l,Z,h2,h3,h4,h5⟩:=h.sliceR (en:=qaez) (R:=λ_=>True) (size:=1) Tryz.underlying24 q2j Od (λ_=>rfl) (λcs hc=>by
  obtain⟨n,d,ps,g1,_⟩:=hc.h;obtain⟨b,rfl,_⟩:=DataW.trod_bool Tryz.underlying4 g1;exact⟨b,rfl,trivial⟩)
 rw[q2c]at h3;exact⟨A,U,l,Z,by omega,h5⟩
end
theorem qafz(h:W.ShapedOpen Eg):MaxLenAt W:=
 cell_of_shapedOpen_int (zero:=#[ii 0]) (t:=3) (k:=.i64) h (Cs Jk) Jk rfl Jk Jk Tryz.underlying3
def tabs:List (String×DataW Unit):=[("unicode/utf8.acceptRanges",Rows.laid_unicode_utf8_acceptRanges),("tessera/sums.nibbles",Rows.laid_tessera_sums_nibbles),("tessera/names.basesTable",Rows.laid_tessera_names_basesTable),("tessera/vocab.kinds",Rows.laid_tessera_vocab_kinds),("unicode/utf8.first",Rows.laid_unicode_utf8_first)]
def qafn:List (String×DataW Unit):=[("unicode/utf8.acceptRanges",Rows.laid_unicode_utf8_acceptRanges),("errors.errorType",Rows.laid_errors_errorType),("tessera/sums.nibbles",Rows.laid_tessera_sums_nibbles),("tessera/names.basesTable",Rows.laid_tessera_names_basesTable),("tessera/vocab.kinds",Rows.laid_tessera_vocab_kinds),("unicode/utf8.first",Rows.laid_unicode_utf8_first)]
theorem qajg(h:laidMetH Eg qafn W):laidMet Eg tabs W/\handlesMet Eg [("errors.errorType",Rows.laid_errors_errorType)] W:=h
theorem qakh(h:laidMet Eg tabs W):CellsAt W 4 0 qcb:=
 qqa (name:= "tessera/names.basesTable") (k:=.i32) (zs:=[192,214,216,246,248,767,880,893,895,8191,8204,8205,8304,8591,11264,12271,12289,55295,63744,64975,65008,65533,65536,983039]) (l:=tabs) (g:=4) (t:=480) (e:=21) (n:=24)
  Jk Jk Tryz.underlying480 Tryz.underlying21 Jk Jk h (zmc (zmc mh))
theorem qaae(h:laidMet Eg tabs W):CellsAt W 3 0 qmd:=
 qqa (name:= "tessera/sums.nibbles") (k:=.u32) (zs:=nibs.map λn:Nat=>(n:Int)) (l:=tabs) (g:=3) (t:=446) (e:=179) (n:=16)
  Jk Jk Tryz.underlying446 Tryz.underlying179 Jk Jk h (zmc mh)
theorem qajd(h:laidMet Eg tabs W):qlg W:=
 qqa (name:= "tessera/vocab.kinds") (k:=.i64) (zs:=[1,2,3]) (l:=tabs) (g:=2) (t:=113) (e:=3) (n:=3)
  Jk Jk Tryz.underlying113 Tryz.underlying3 Jk Jk h (zmc (zmc (zmc mh)))
theorem etL:Eg.globalNamed "errors.errorType" = some 0:=by kernel_rfl
theorem rtL:(Eg.cutTypes.find? (·.1== "internal/reflectlite.rtype")).map (·.2)=some 314:=by kernel_rfl
theorem qagg:((List.range Eg.types.size).filter λt=>Eg.rowNamed t [101,114,114,111,114])=[38]:=by kernel_rfl
theorem qae3(h:handlesMet Eg [("errors.errorType",Rows.laid_errors_errorType)] W):qww W:=by
 obtain⟨name,u,ty,e1,e2,e3,e4,V⟩:=h _ (Ak.2 rfl);have en:name=[101,114,114,111,114]:=(Bb e1).symm;subst en;obtain rfl:=Bb (rtL.symm.trans e2);have Z:ty∈(List.range Eg.types.size).filter λt=>Eg.rowNamed t [101,114,114,111,114]:=BK.2 ⟨BP.2 e3,e4⟩
 rw[qagg]at Z;obtain rfl:=Ak.1 Z;have hh:typeHandle Eg 38=.pointer (some ⟨7,38,none⟩):=by kernel_rfl
 rw[hh]at V;have hc:=World.var?_cell etL V 0;unfold qww
 simpa using hc
structure GlobM(w:DU):Prop where
 S:GlobS w
 N:CellsAt w 3 0 qmd
 G:qww w
theorem qafc(h:laidMetH Eg qafn W)(V:W.ShapedOpen Eg):GlobM W:=
 have U:=qajg h
 ⟨⟨qafz V,qakh U.1,qajd U.1⟩,qaae U.1,qae3 U.2⟩
noncomputable def witP(V:Os):DU:=
 let w0:=qajh V [(6,Rows.laid_unicode_utf8_acceptRanges),(3,Rows.laid_tessera_sums_nibbles),(4,Rows.laid_tessera_names_basesTable),(2,Rows.laid_tessera_vocab_kinds),(5,Rows.laid_unicode_utf8_first)]
 { w0 with heap:=w0.heap.modify 0 fun
   | .cells _ t frozen=>.cells #[.iface 314 (.agg #[.pointer (some ⟨7,38,none⟩)])] t frozen
   | o=>o }
theorem quw{c:OpenClaim}(V:c.start=.entering)(h:P.funcs.any Func.goes=false):false=c.goesBy P:=by
 have U:∀g:FuncId,(P.funcs[g]?).any Func.goes=false:=λg=>by
  cases e:P.funcs[g]? with
  | none=>rfl
  | some fn=>
   rw[Array.any_eq_false]at h;obtain⟨U,rfl⟩:=Cg.1 e
   simpa using h g U
 have Z:∀f,P.goes f=false:=λf=>by
  rw[Program.goes,h,Dp,Bool.or_false,List.any_eq_false];intro g _;rw[U g];exact DL
 rw[OpenClaim.goesBy,V,Program.goesAt,Program.goesFrom,Bool.or_false];cases P.funcNamed c.func with
 | none=>rfl
 | some f=>exact(Z f).symm
theorem qajt:Eg.funcs.any Func.goes=false:=by kernel_rfl
theorem andT{a b:Bool}(h:a=true)(k:b=true):(a&&b)=true:=by rw[h,k];rfl
open Go.RowKit V
theorem qlh(T:List TM)(qs:List Q4)(h:EncOk T qs)(x pb vb tb:Nat)(B:oA)(c:Nat)(A:oA)(d:Nat)(a:AskE)(hq:qa5 a.q)(ax:InR .i64 a.most)(w:DU)(hX:IdxE w x pb vb tb (encP T qs))(hG:GlobS w)(hB:SlAt qf 16 w B qs)(hA:SlAt encT 4 w A T):
  Gv Eg 13 [pp x,.agg #[.slice B qs.length c,.slice A T.length d],askV a] w λr w'=>r=.bool true/\Ext w w':=by
 have ag:=h.set.len;have a3:=h.set.few;have ar:=h.set.rise;have ay:∀t∈T,1<=t.kind:=λt ht=>(h.kinds t ht).1
 have az:=qka a.q qs;obtain⟨M,eM⟩:∃M,M=qbd a.q qs:=⟨_,rfl⟩
 rw[<-eM]at az;refine ze Tryz.func13 Tryz.ntmps13 ?_;refine znm (Mem.nil w) λb4 w1 hm=>zw ?_;refine znm hm ?_;clear hm;intro b5 w2 hm;replace hm:Mem w w2 [(b5,.cells (askC a).toArray 49),(b4,.cells #[.slice B qs.length c,.slice A T.length d] 30)]:=hm;have Z:=hm.ext;have ah:∀w',Ext w2 w'->CellsAt w' b5 0 (askC a):=λw' he k v hv=>by
  rw[qa (he.get (hm.get mh)),As,An];exact hv
 have ad:∀w',Ext w2 w'->CellsAt w' b5 (0+1) (qf a.q):=(by grind [qaky])
 have am:∀w',Ext w2 w'->w'.heap[b4]?=some (.cells #[.slice B qs.length c,.slice A T.length d] 30):=λw' he=>he.get (hm.get (zmc (Ak.2 rfl)))
 clear hm;have hr:=Ext.refl w2;(conv=>whnf);refine LoadV.of ((ah w2 hr) 19 _ rfl) (zw ?_);refine V.Fall.max2 rfl rfl rfl ?_;intro mx a4;obtain⟨m,rfl⟩:∃m:Nat,mx=(m:Int):=⟨mx.toNat,by omega⟩
 have au:m<=9223372036854775807:=by have:=ax.2;omega
 (conv=>whnf);refine LoadV.of ((ah w2 hr) 0 _ rfl) (zw ?_);have aw:a.kind=0\/a.kind=1\/a.kind=2\/a.kind=3\/a.kind=4\/a.kind=5\/a.kind=6\/(a.kind≠0/\a.kind≠1/\a.kind≠2/\a.kind≠3/\a.kind≠4/\a.kind≠5/\a.kind≠6):=by omega
 rcases aw with hk|hk|hk|hk|hk|hk|hk|hk
 case inl=>
  refine zu ?_;have hx:∀wd,Ext w2.drew wd->Ext w2 wd:=λwd hd=>(Ext.refl w2).drew.trans hd
  refine DrawV.free Jk Jk (zw ?_);refine zd ?_;refine zsd (ii (qs.length:Nat)) (λwd hd=>zw ?_) (zw ?_)
  ·refine zcv (qabg (encP T qs) x pb vb tb wd (hX.ext (Z.trans (hx wd hd)))) ?_;rintro r wx ⟨rfl,he⟩;exact⟨he,by rw[h.n]⟩
  refine zd ?_;refine zsd (.slice B qs.length c) (λwd hd=>zw ?_) (zw ?_)
  ·refine LoadV.own (am wd (hx wd hd)) rfl (zw ?_);exact xq
  (iterate 3 (refine zd ?_));intro w3 aa;(conv=>whnf);exact⟨by simp,Z.trans (hx w3 aa)⟩
 case inr.inl=>
  obtain⟨F,bb,ev⟩:=q6d T a.q;refine zu ?_;refine LoadA.cells (ad w2 hr) rfl (zw ?_);refine zcv (qq4 T qs h x a.q hq w2 (hX.ext Z).at_ (hG.ext Z).M (hG.ext Z).T) ?_;rintro r w3 ⟨rfl,aa⟩;rw[ev];(conv=>whnf);refine znm (Mem.nil w3) λia w4 hm=>zw ?_;refine zS hm 0 ?_;clear hm;intro w5 hm;have av:Ext w2 w5:=aa.trans hm.ext;(conv=>whnf);refine LoadA.own (am w5 av) rfl (zw ?_);refine LoadA.cells (ad w5 av) rfl (zw ?_);refine zcv (q30 T B qs.length c A T.length d a.q w5 ar ay (hA.ext (Z.trans av)) rfl Oo) ?_;rintro r w6 ⟨rfl,an⟩;replace hm:=hm.call an;rw[ev];(conv=>whnf);refine znm hm λib w7 hm=>zw ?_;refine zS hm 0 λw8 hm=>zw ?_;refine zl hm 1 ?_;refine zl hm 0 ?_;refine V.RunV.eqIds (zu ?_);cases bb
  ·(conv=>whnf);exact⟨rfl,Z.trans (aa.trans hm.ext)⟩
  ·(conv=>whnf);exact⟨rfl,Z.trans (aa.trans hm.ext)⟩
 case inr.inr.inl=>
  obtain⟨b0,a5⟩:∃b0:Bool,(b0=true↔a.q∈qs):=by
   by_cases aw:a.q∈qs
   all_goals simp_all
  refine zu ?_;have hx:∀wd,Ext w2.drew wd->Ext w2 wd:=λwd hd=>(Ext.refl w2).drew.trans hd
  refine DrawV.free Jk Jk (zw ?_);refine zd ?_;refine zd ?_;refine zsd (qy a.q) (λwd hd=>zw ?_) (zw ?_)
  ·refine LoadA.cells (ad wd (hx wd hd)) rfl (zw ?_);exact xq
  refine zsd (.bool b0) (λwd hd=>zw ?_) (zw ?_)
  ·refine zcv (qabd T qs h x pb vb tb a.q hq wd (hX.ext (Z.trans (hx wd hd))) (hG.ext (Z.trans (hx wd hd)))) ?_
   grind
  refine zsd (.agg #[.slice B qs.length c,.slice A T.length d]) (λwd hd=>zw ?_) (zw ?_)
  ·refine LoadA.own (am wd (hx wd hd)) rfl (zw ?_);exact xq
  refine zd ?_;refine zsd (qy a.q) (λwd hd=>zw ?_) (zw ?_)
  ·refine LoadA.cells (ad wd (hx wd hd)) rfl (zw ?_);exact xq
  refine zsd (.bool b0) (λwd hd=>zw ?_) (zw ?_)
  ·refine zcv (q3v qs B qs.length c A T.length d a.q wd h.set.ord (hB.ext (Z.trans (hx wd hd))) rfl ag) ?_
   grind
  refine zd ?_;refine zd ?_;intro w3 aa;(conv=>whnf);exact⟨by simp,Z.trans (hx w3 aa)⟩
 case inr.inr.inr.inl=>
  refine zu ?_;refine LoadA.cells (ad w2 hr) rfl (zw ?_);refine zcv (qu8 T qs h x pb vb tb a.q hq m au w2 (hX.ext Z) (hG.ext Z)) ?_;rintro r w3 ⟨⟨v,rfl,D1,d1,rfl,ao,ai⟩,aa⟩;rw[<-eM]at ai ao|-;refine zu ?_;refine LoadA.own (am w3 aa) rfl (zu ?_);refine LoadA.cells (ad w3 aa) rfl (zu ?_);refine zcv (qe5 qs B qs.length c A T.length d a.q w3 (hB.ext (Z.trans aa)) rfl ag) ?_;rintro r w4 ⟨⟨D2,d2,rfl,aj,ae⟩,ak⟩;rw[<-eM]at ae aj|-;refine zu ?_;refine zcv (qlx D2 (snL qs M).length d2 m w4 aj) ?_;rintro r w5 ⟨rfl,af⟩;have eE:snL qs (M.take m)=(snL qs M).take m:=by rw[snL,snL,CI]
  have aq:(snL qs (M.take m)).length=min (snL qs M).length m:=by grind
  have al:=V.SlAt.pre ae m;rw[<-eE]at al;rw[<-aq];refine zu ?_;refine zcv (qcy (snL qs (M.take m)) D1 D2 d1 d2 w5 (ai.ext (ak.trans af)) (al.ext af) (by rw[aq,qdz];omega)) ?_;rintro r w6 ⟨rfl,an⟩;refine zu ?_;exact⟨rfl,Z.trans (aa.trans (ak.trans (af.trans an)))⟩
 case inr.inr.inr.inr.inl=>
  refine zu ?_;have hx:∀wd,Ext w2.drew wd->Ext w2 wd:=λwd hd=>(Ext.refl w2).drew.trans hd
  refine DrawV.free Jk Jk (zw ?_);refine zd ?_;refine zd ?_;refine zsd (qy a.q) (λwd hd=>zw ?_) (zw ?_)
  ·refine LoadA.cells (ad wd (hx wd hd)) rfl (zw ?_);exact xq
  refine zsd (ii (M.length:Nat)) (λwd hd=>zw ?_) (zw ?_)
  ·refine zcv (q1a T qs h x pb vb tb a.q hq wd (hX.ext (Z.trans (hx wd hd))) (hG.ext (Z.trans (hx wd hd)))) ?_
   simp_all
  refine zsd (.agg #[.slice B qs.length c,.slice A T.length d]) (λwd hd=>zw ?_) (zw ?_)
  ·refine LoadA.own (am wd (hx wd hd)) rfl (zw ?_);exact xq
  refine zd ?_;refine zsd (qy a.q) (λwd hd=>zw ?_) (zw ?_)
  ·refine LoadA.cells (ad wd (hx wd hd)) rfl (zw ?_);exact xq
  apply StepD.of (λv wx=>∃D k,v=.slice D M.length k) (by grind)
  ·intro wd hd;(conv=>whnf);refine zcv (qe5 qs B qs.length c A T.length d a.q wd (hB.ext (Z.trans (hx wd hd))) rfl ag) ?_;rintro r wx ⟨⟨D2,d2,rfl,aj,ae⟩,he⟩
   simp_all[qdz]
  (conv=>whnf);refine zsd (ii (M.length:Nat)) (λwd hd=>zw ?_) (zw ?_)
  ·rintro v ⟨D2,d2,rfl⟩;(conv=>whnf);exact xq
  refine zd ?_;refine zd ?_;intro w3 aa;(conv=>whnf);rintro v ⟨D2,d2,rfl⟩;(conv=>whnf);exact⟨by simp,Z.trans (hx w3 aa)⟩
 case inr.inr.inr.inr.inr.inl=>
  refine zu ?_;refine LoadA.cells (ad w2 hr) rfl (zw ?_);refine LoadV.of ((ah w2 hr) 17 _ rfl) (zw ?_);refine zcv (q1m T qs h x pb vb tb a.q hq a.pl m au w2 (hX.ext Z) (hG.ext Z)) ?_;rintro r w3 ⟨⟨v,rfl,D1,d1,rfl,ao,ai⟩,aa⟩;(conv=>whnf);refine LoadA.own (am w3 aa) rfl (zw ?_);refine LoadA.cells (ad w3 aa) rfl (zw ?_);refine LoadV.of ((ah w3 aa) 17 _ rfl) (zw ?_);refine zcv (qrg qs B qs.length c A T.length d a.q a.pl w3 (hB.ext (Z.trans aa)) rfl ag) ?_;rintro r w4 ⟨⟨D2,d2,rfl,aj,ae⟩,ak⟩;have a0:=q6z a.pl a.q qs;obtain⟨U,eU⟩:∃U,U=tasL a.pl a.q qs:=⟨_,rfl⟩
  rw[<-eU]at ai ao ae aj a0|-;refine zu ?_;refine V.Fall.min2 rfl rfl rfl λmn a6=>?_;obtain⟨k,ek⟩:∃k,k=min U.length m:=⟨_,rfl⟩
  obtain rfl:mn=(k:Int):=by omega
  have a1:(U.take m).length=k:=by grind
  refine zu ?_;refine V.SliceV.to 0 k d2 rfl rfl rfl Oo Oo Oo (λh=>by cases h) ?_;rw[qtz,C0,C0,<-a1];refine zu ?_;refine zcv (qf9 (U.take m) D1 D2 d1 d2 w4 (ai.ext ak) (V.SlAt.pre ae m) Oo) ?_;rintro r w5 ⟨rfl,af⟩;refine zu ?_;exact⟨rfl,Z.trans (aa.trans (ak.trans af))⟩
 case inr.inr.inr.inr.inr.inr.inl=>
  refine zu ?_;refine LoadA.cells (ad w2 hr) rfl (zw ?_);refine LoadV.of ((ah w2 hr) 17 _ rfl) (zw ?_);refine LoadV.of ((ah w2 hr) 18 _ rfl) (zw ?_);refine zcv (q13 T qs h x pb vb tb a.q hq a.pl a.pre m au w2 (hX.ext Z) (hG.ext Z)) ?_;rintro r w3 ⟨⟨v,rfl,D1,d1,rfl,ao,ai⟩,aa⟩;refine zu ?_;refine LoadA.own (am w3 aa) rfl (zu ?_);refine LoadA.cells (ad w3 aa) rfl (zu ?_);refine LoadV.of ((ah w3 aa) 17 _ rfl) (zu ?_);refine LoadV.of ((ah w3 aa) 18 _ rfl) (zu ?_);refine zcv (qrt qs B qs.length c A T.length d a.q a.pl a.pre w3 (hB.ext (Z.trans aa)) rfl ag) ?_;rintro r w4 ⟨⟨D2,d2,rfl,aj,ae⟩,ak⟩;have a2:=q10 a.pl a.pre a.q qs;obtain⟨N,eN⟩:∃N,N=begL a.pl a.pre a.q qs:=⟨_,rfl⟩
  rw[<-eN]at ai ao ae aj a2|-;refine zu ?_;refine zcv (qlx D2 (snL qs N).length d2 m w4 aj) ?_;rintro r w5 ⟨rfl,af⟩;have eE:snL qs (N.take m)=(snL qs N).take m:=by rw[snL,snL,CI]
  have aq:(snL qs (N.take m)).length=min (snL qs N).length m:=by grind
  have al:=V.SlAt.pre ae m;rw[<-eE]at al;rw[<-aq];refine zu ?_;refine zcv (qcy (snL qs (N.take m)) D1 D2 d1 d2 w5 (ai.ext (ak.trans af)) (al.ext af) (by rw[aq,qdz];omega)) ?_;rintro r w6 ⟨rfl,an⟩;refine zu ?_;exact⟨rfl,Z.trans (aa.trans (ak.trans (af.trans an)))⟩
 case inr.inr.inr.inr.inr.inr.inr=>
  refine zu ?_
  simp_all
structure Turn(l l':LB)(f B:Nat):Prop where
 len:l'.length=l.length
 bit:∀t,t<8*l.length->bitN l' t=(bitN l t+(if f<=t/\t<f+32 then B/2 ^ (t-f)%2 else 0))%2
section
variable {l l':LB} {f B:Nat} (h:Turn l l' f B)
include h
end
theorem EncOk.packE{T:List TM}{U:List Q4}(h:EncOk T U):(packE (encP T U)).2=0:=by
 have V:=h.poE;obtain⟨Z,_,_,_,h5,_⟩:=qb7 (l:=encP T U) (by rw[V]);rw[Go.Proofs.YtccmcfpmknpccaaGreatDoor.packE,Aa (λg=>g Z),h.v,Aa (λg=>g h.voc.wE),Aa (λg=>g (qca h5).1)]
theorem strU:Eg.underlying 9=some .string:=Tryz.underlying9
theorem qe9(n:Nat)(w:DU)(hn:n<18446744073709551616):
  Gv Eg 81 [.int .u64 n] w λr w'=>BS w' r (varL n)/\Ext w w':=by
 have hv:=qbk 9 n (Bf hn Od);refine ze Tryz.func81 Tryz.ntmps81 ?_;refine qk (λx:oA×Nat×LB×Nat=>[(0,.int .u64 x.2.2.2),(3,.slice x.1 x.2.2.1.length x.2.1)])
  (λx w2=>x.2.2.2<18446744073709551616/\varL n=x.2.2.1++varL x.2.2.2/\Rw w w2 (.slice x.1 x.2.2.1.length x.2.1) 5 1 x.2.2.1.length (byV x.2.2.1) []) (λx=>x.2.2.2) (none,0,[],n) fq ⟨hn,rfl,Rw.nil (Mem.nil w)⟩ ?_
 rintro⟨A,c,U,k⟩ w2 ae ⟨h1,h2,hR⟩;dsimp only at h1 h2 hR|-;have hp:=qab3 k;have af:U.length+(varL k).length<=10:=by have:=Ae List.length h2;rw[zla]at this;omega
 (conv=>whnf);refine zC (λ_=>zu ?_) (λ_=>zu ?_)
 ·refine V.Wit.low8 (zw ?_);refine Wit.eq (qzw k) (zw ?_);refine NewV.rw hR λnb w4 Z=>zw ?_;refine AppV.one qdo bytI bytZ Jk rfl (by decide +kernel) Z rfl Oo ?_;intro B' d' w5 aa;(conv=>whnf);refine V.Wit.shrN 7 rfl Od (zw ?_);have hk:128<=k:=by omega
  have e:(U++[UInt8.ofNat (k%128+128)]).length=U.length+1:=by simp
  refine⟨(B',d',U++[UInt8.ofNat (k%128+128)],k/128),⟨rfl,by show Value.slice _ _ _=_;rw[e],trivial⟩,⟨by simp only;omega,?_,?_⟩,by simp only;omega⟩
  ·rw[h2,qeq hk,Aw];rfl
  ·show Rw w w5 (.slice B' (U++[UInt8.ofNat (k%128+128)]).length d') _ 1 _ _ _;rw[e,byV,AJ,AK,BN,qa0 Oo];exact aa
 ·have hk:k<128:=by omega
  refine NewV.rw hR λnb w4 Z=>zw ?_;refine AppV.one qdo bytI bytZ Jk rfl (by decide +kernel) Z rfl Oo ?_;intro B' d' w5 aa;have e:(U++[UInt8.ofNat k]).length=U.length+1:=by simp
  have ad:Rw w w5 (.slice B' (U.length+1) d') 5 1 (U.length+1) (byV (U++[UInt8.ofNat k])) []:=by
   rw[byV,AJ,AK,BN,qa0 Oo];exact aa
  have e2:varL n=U++[UInt8.ofNat k]:=by rw[h2,qer hk]
  (conv=>whnf);exact⟨by rw[e2];exact Rw.byts ad e,ad.mem.ext⟩
theorem qtk(Z:Ef)(U:Nat)(A:oA)(n c:Nat)(w:DU)(hS:SlAt encU 1 w A Z)(hn:Z.length=n)(hl:n<=4398046511104)(al:n*U<=4398046511104)(hp:∀x∈Z,x<2 ^ U)(hw:U<=64):
  Gv Eg 88 [.slice A n c,ii U] w λr w'=>∃v,r=.tuple #[v,ii 0]/\NewS 5 w w' v (qcv Z U):=by
 have ae:=λw=>qop n U w al
 obtain⟨f,ef⟩:∃f,f=n*U:=⟨_,rfl⟩
 rw[<-ef]at ae;have ag:Z.length*U=f:=by rw[hn,ef]
 refine ze Tryz.func88 Tryz.ntmps88 ?_;refine zv ?_;refine qk (λi:Nat=>[(0,.slice A n c),(1,ii U),(6,ii i)]) (λi w'=>i<=n/\w'=w) (λi=>n-i) 0 fq ⟨Ag _,rfl⟩ ?_;rintro i w1 am ⟨i1,rfl⟩;(conv=>whnf);refine zC (λ_=>zw ?_) (λ_=>zw ?_)
 ·have hi:i<Z.length:=by omega
  have hx:=hp _ (AH hi);have af:Z[i]<18446744073709551616:=Bf hx (AY Od hw);have av:=qacg hx hw;refine ElemV.sl hS hn i rfl Oo ?_;intro eb eo aa;(conv=>whnf);refine LoadV.cell0 aa (zw ?_);refine zcv (qel Z[i] w1 af) ?_;rintro r w2 ⟨rfl,rfl⟩;refine zu ?_;exact⟨i+1,fq,⟨by omega,rfl⟩,by omega⟩
 ·refine zcv (ae w1) ?_;rintro r w4 ⟨rfl,rfl⟩;(conv=>whnf);refine⟨(f+7)/8,(f+7)/8,rfl,rfl,Ai _,by show(f+7)/8*1<=_;omega,by omega,λob w5 hb ah=>?_⟩;have hm:=(Mem.nil w4).new hb ah;have hm:Mem w4 w5 [(ob,.cells (pkC Z U 0).toArray 5)]:=by rw[qaar,ag];exact hm
  clear hb ah;(conv=>whnf);refine qk (λi:Nat=>[(0,.slice A n c),(1,ii U),(7,.slice (some ⟨ob,0,none⟩) ((f+7)/8) ((f+7)/8)),(8,ii i)])
   (λi w'=>i<=n/\Mem w4 w' [(ob,.cells (pkC Z U (i*U)).toArray 5)]) (λi=>n-i) 0 fq ⟨Ag _,by rw[Nat.zero_mul];exact hm⟩ ?_
  clear hm;rintro i w6 am ⟨i1,hm⟩;(conv=>whnf);refine zC (λ_=>zw ?_) (λ_=>zw ?_)
  ·have hi:i<Z.length:=by omega
   have hx:=hp _ (AH hi);have af:Z[i]<18446744073709551616:=Bf hx (AY Od hw);have hg:Z.getD i 0=Z[i]:=by rw[Ah,zge hi];rfl
   have an:i*U+U<=f:=by rw[ef,<-Cz];exact Bx _ Oo
   obtain⟨g,eg⟩:∃g,g=i*U:=⟨_,rfl⟩
   have ao:(i:Int)*(U:Int)=(g:Int):=by rw[eg,DC]
   rw[<-eg]at an;refine qk (λk:Nat=>[(0,.slice A n c),(1,ii U),(7,.slice (some ⟨ob,0,none⟩) ((f+7)/8) ((f+7)/8)),(8,ii i),(9,ii k)])
    (λk w'=>k<=U/\Mem w4 w' [(ob,.cells (pkC Z U (g+k)).toArray 5)]) (λk=>U-k) 0 fq ⟨Ag _,by rw[BB,eg];exact hm⟩ ?_
   clear hm;rintro k w7 aw ⟨k1,hm⟩;have hq:Z[i]/2 ^ k<18446744073709551616:=BI (Cv _ _) af;(conv=>whnf);refine zC (λ_=>zu ?_) (λ_=>zu ?_)
   ·have ai:k<U:=by omega
    have he:g+k<Z.length*U:=by rw[ag];omega
    have aq:=qagx Z U (g+k);rw[ag]at aq;have ar:=qajy he;have hF:pkF Z U (g+k)=Z[i]/2 ^ k:=by rw[eg,qajz ai,hg]
    have ax:=qxf (upF (pkF Z U) (g+k)) ((g+k)/8);have aj:=qagy he;rw[hF]at aj;obtain⟨gb,go,hA,ak⟩:=hS.at_ (by intro e;rw[e]at hi;cases hi);subst hA;have aa:=(ak i _ (zge hi)).ext hm.ext;rw[ao];refine DrawV.own rfl Jk (zw ?_);(iterate 6 (refine zo ?_));apply StepO.still
    ·intro U hd;(conv=>whnf);refine ElemV.own1 ((g+k)/8) rfl Oo (zw ?_);exact PostO.still xr rfl
    (conv=>whnf);apply StepO.still
    ·intro U hd;(conv=>whnf);refine LoadV.mem (Mem.call (Mem.drew hm) hd) (i:=0) rfl (by rw[An];exact ar) ?_;(conv=>whnf);exact PostO.still xr rfl
    (conv=>whnf);refine zo ?_;refine zo ?_;apply StepO.still
    ·intro ad hd;(conv=>whnf);refine⟨⟨gb,go,i,rfl,by omega,by omega,?_⟩⟩;exact PostO.still xr rfl
    (conv=>whnf);apply StepO.still
    ·intro ad hd;(conv=>whnf);refine LoadV.cell0 (aa.ext ((Ext.refl w7).drew.trans hd)) (zw ?_);exact PostO.still xr rfl
    (conv=>whnf);refine zo ?_;apply StepO.still
    ·intro ad hd;(conv=>whnf);refine V.Wit.shrN k rfl (by show k<64;omega) (zw ?_);exact PostO.still xr rfl
    (conv=>whnf);apply StepO.still
    ·intro ad hd;(conv=>whnf);refine Wit.eq (qay (k:=.u64) (m:=Z[i]/2 ^ k) 1 rfl (qeu hq) ⟨by omega,by omega⟩) (zw ?_);exact PostO.still xr rfl
    (conv=>whnf);(iterate 3 (refine zo ?_));apply StepO.still
    ·intro ad hd;(conv=>whnf);refine V.Wit.shlN ((g+k)%8) Oo (by show(g+k)%8<8;omega) (qff ?_) ?_
     ·have h2:2 ^ ((g+k)%8)<=2 ^ 7:=AY Od Oo;have h3:Z[i]/2 ^ k%2 ^ 1*2 ^ ((g+k)%8)<=1*2 ^ ((g+k)%8):=Bx _ Oo;have e7:(2:Nat) ^ 7=128:=by decide
      show Z[i]/2 ^ k%2 ^ 1*2 ^ ((g+k)%8)<256;omega
     (conv=>whnf);exact PostO.still xr rfl
    (conv=>whnf);apply StepO.still
    ·intro ad hd;(conv=>whnf);refine Wit.eq (qadf (f:=pkF Z U) (g+k) (Z[i]/2 ^ k)) (zw ?_);exact PostO.still xr rfl
    (conv=>whnf);apply StepO.still
    ·intro ad hd;(conv=>whnf);refine ElemV.own1 ((g+k)/8) rfl Oo (zw ?_);exact PostO.still xr rfl
    (conv=>whnf);intro w8 au
    (repeat(intro _;(conv=>whnf)))
    (conv=>whnf);refine StoreV.mem (hm.drew.call au) (i:=0) rfl (by rw[Ct];omega) rfl ?_;intro w9 hm;have hm:Mem w4 w9 [(ob,.cells (pkC Z U (g+k+1)).toArray 5)]:=by
     rw[<-aj];have e:((pkC Z U (g+k)).toArray.setIfInBounds ((g+k)/8) (.int .u8 (byt (upF (pkF Z U) (g+k)) ((g+k)/8)+Z[i]/2 ^ k%2*2 ^ ((g+k)%8):Nat)))=((pkC Z U (g+k)).set ((g+k)/8) (.int .u8 (byt (upF (pkF Z U) (g+k)) ((g+k)/8)+Z[i]/2 ^ k%2*2 ^ ((g+k)%8):Nat))).toArray:=by simp
     rw[<-e];exact hm
    refine zu ?_;refine⟨k+1,fq,⟨by omega,hm⟩,by omega⟩
   ·have ai:k=U:=by omega
    refine⟨i+1,fq,⟨by omega,?_⟩,by omega⟩;rw[Nat.add_mul,Nat.one_mul,<-eg,show g+U=g+k by omega];exact hm
  ·obtain rfl:i=n:=by omega
   obtain⟨o1,o2⟩:=hm.own _ mh;refine⟨_,rfl,NewS.blk hm.ext o1 ?_ (by rw[qbz,ag])⟩;rw[<-qagw,hn];exact o2
theorem qqq(v:DZ)(x:LB)(n:Nat)(s:DV)(w:DU)(h:w.ownsRow 0 5 1 v x.length (byV x))(hn:n<9223372036854775808)(hl:x.length+s.size+16<=8000000000000):
  Gv Eg 149 [v,ii n,.string s] w λr w'=>RowC 5 w w' v r (x++(varL n++s.data.toList)):=by
 have hv:=qbk 9 n (Bf hn Od);obtain⟨A,c,rfl⟩:=qbm h;refine ze Tryz.func149 Tryz.ntmps149 ?_;refine zv ?_;refine zcv (qe9 n w Oo) ?_;rintro r w1 ⟨⟨B,d,rfl,hd,hS⟩,he⟩;have h1:=qbj h he;(conv=>whnf);refine AppV.bys qdo bytI bytZ Jk rfl (by decide +kernel) h1 hS Oo ?_;intro A' c' w2 U aa ad;(conv=>whnf);have V:(x++varL n).length=x.length+(varL n).length:=zla;have Z:w2.ownsRow 0 5 1 (.slice A' (x.length+(varL n).length) c') (x++varL n).length (byV (x++varL n)):=U;refine AppV.strR qdo strU bytI bytZ Jk Jk Z Oo ?_;intro A3 c3 w3 ae af ag;(conv=>whnf);have e:(x++(varL n++s.data.toList)).length=(x++varL n).length+s.size:=by rw[<-Aw,zla];rfl
 have r1:RowC 5 w1 w2 (.slice A x.length c) (.slice A' (x.length+(varL n).length) c') (x++varL n):=⟨⟨A',c',by rw[V]⟩,U,aa,ad⟩
 have r2:RowC 5 w2 w3 (.slice A' (x.length+(varL n).length) c') (.slice A3 ((x++varL n).length+s.size) c3) (x++(varL n++s.data.toList)):=⟨⟨A3,c3,by rw[e]⟩,by rw[<-Aw];exact ae,af,ag⟩
 exact(r1.trans r2).back he
theorem qajx{U n:Nat}{v:DZ}(h:w.ownsRow 0 e U v n xs)(hk:∀k∈rowF v,base<=k):w.ownsRow base e U v n xs:=by
 refine⟨h.1,h.2.imp id ?_⟩;rintro⟨g,V,Z,rfl,_,h2⟩;exact⟨g,V,Z,rfl,hk g (Ak.2 rfl),h2⟩
theorem qve{n:Nat}(h:w.ownsRow base e 1 (.slice A n c) n (byV l))(U:l.length=n):SlAt encB 1 w A l:=qqo (f:=λx:DY=>Value.int .u8 (x.toNat:Nat)) h U
structure RowS(w0 w:DU)(v:DZ)(l:LB):Prop where
 sep:Sep w0 w [rowF v]
 row:w.ownsRow 0 5 1 v l.length (byV l)
section
variable {w0 w w':DU} {v:DZ} {l m:LB} {A B:oA} {c d:Nat}
theorem RowS.nil(U:Ext w0 w):RowS w0 w (.slice none 0 0) []:=⟨(Sep.of U).add (F:=rowF (.slice none 0 0)) (Ext.refl w) (λk V=>by cases V),World.ownsRow_nil _ _ _ _⟩
theorem RowS.ext(h:RowS w0 w v l):Ext w0 w:=h.sep.ext
theorem RowS.call(h:RowS w0 w v l)(U:Ext w w'):RowS w0 w' v l:=⟨h.sep.call U,qbj h.row U⟩
theorem RowS.sl(h:RowS w0 w (.slice A l.length c) l):SlAt encB 1 w A l:=qve h.row rfl
theorem RowS.chg(h:RowS w0 w v l)(U:w'.ownsRow 0 5 1 u m.length (byV m))(V:Chn (rowF v) w w')(Z:∀k∈rowF u,(k∈rowF v\/w.heap.size<=k)/\k<w'.heap.size):RowS w0 w' u m:=
 ⟨(h.sep.row (i:=0) (F':=rowF u) rfl V Z).sep,U⟩
theorem RowS.bys(h:RowS w0 w (.slice A l.length c) l)(hS:SlAt encB 1 w B m)(U:l.length+m.length<=8000000000000)(hk:∀V Z w',RowS w0 w' (.slice V (l++m).length Z) (l++m)->K (.slice V (l++m).length Z) w'):AppV Eg #[32,32] 32 (.slice A l.length c) (.slice B m.length d) w K:=by
 refine AppV.bys qdo bytI bytZ Jk rfl (by decide +kernel) h.row hS U ?_;intro V Z w' ho hc hn;have e:l.length+m.length=(l++m).length:=zla.symm;rw[e]at ho hn|-;exact hk V Z w' (h.chg ho hc hn)
theorem RowS.one(h:RowS w0 w (.slice A l.length c) l){x:Nat}(hx:x<256)(hb:w.heap[nb]?=some (.cells #[.int .u8 (x:Nat)] 5))(U:l.length+1<=8000000000000)(hk:∀V Z w',RowS w0 w' (.slice V (l++[UInt8.ofNat x]).length Z) (l++[UInt8.ofNat x])->K (.slice V (l++[UInt8.ofNat x]).length Z) w'):AppV Eg #[32,32] 32 (.slice A l.length c) (.slice (some ⟨nb,0,none⟩) 1 1) w K:=by
 refine AppV.cell qdo bytI bytZ Jk rfl (by decide +kernel) h.row hb rfl U ?_;intro V Z w' ho hc hn;have e:l.length+1=(l++[UInt8.ofNat x]).length:=by simp
 have e2:byV l++[.int .u8 (x:Nat)]=byV (l++[UInt8.ofNat x]):=by grind [byV,qa0]
 rw[e2,e]at ho;rw[e]at hn|-;exact hk V Z w' (h.chg ho hc hn)
theorem qagl{n:Nat}(h:w.ownsRow base e 1 (.slice A n c) n xs):n<=c:=by
 rcases h.2 with⟨U,e2⟩|⟨g,V,Z,U,_,_,h2,_⟩
 all_goals simp_all
theorem RowS.new(h:RowS w0 w (.slice A l.length c) l):NewS 5 w0 w (.slice A l.length c) l:=
 NewS.of h.ext (qajx h.row λk U=>(h.sep.at_ (i:=0) rfl k U).1) c (qagl h.row) Oo
end
structure PuI(w3:DU)(v8:DZ)(y:LB)(s10 s11:Bool)(v10 v11:DZ)(w:DU):Prop where
 h:(s10=false/\Ext w3 w)\/(s10=true/\RowC 5 w3 w v8 v10 y)
 k:s11=true->s10=true/\v11=v10
section
variable {w0 w3 w w':DU} {v8:DZ} {y:LB} {s10 s11:Bool} {v10 v11:DZ}
theorem PuI.start(h:Ext w3 w):PuI w3 v8 y false false v10 v11 w:=⟨.inl ⟨rfl,h⟩,λh=>(by cases h)⟩
theorem PuI.ext(h:PuI w3 v8 y s10 s11 v10 v11 w)(U:Ext w0 w3)(V:∀k∈rowF v8,w0.heap.size<=k):Ext w0 w:=by
 rcases h.h with⟨_,Z⟩|⟨_,hR⟩
 ·exact U.trans Z
 ·exact hR.chg.ext U V
theorem PuI.before(h:PuI w3 v8 y false s11 v10 v11 w):Ext w3 w:=by
 rcases h.h with⟨_,U⟩|⟨e,_⟩
 ·exact U
 ·cases e
theorem PuI.put(h:PuI w3 v8 y false s11 v10 v11 w){v:DZ}(U:RowC 5 w3 w' v8 v y):PuI w3 v8 y true s11 v v11 w':=
 ⟨.inr ⟨rfl,U⟩,λe=>absurd (h.k e).1 Od⟩
theorem PuI.keep(h:PuI w3 v8 y true false v10 v11 w):PuI w3 v8 y true true v10 v10 w:=⟨h.h,λ_=>⟨rfl,rfl⟩⟩
theorem PuI.val(h:PuI w3 v8 y true s11 v10 v11 w):∃A c,v10=.slice A y.length c:=by
 rcases h.h with⟨e,_⟩|⟨_,U⟩
 ·cases e
 ·exact U.own
theorem PuI.done(h:PuI w3 v8 y true true v10 v11 w):v11=v10/\RowC 5 w3 w v8 v10 y:=by
 rcases h.h with⟨e,_⟩|⟨_,U⟩
 ·cases e
 ·exact⟨(h.k rfl).2,U⟩
end
structure DcS(L:List LB)(w0 w:DU)(i:Nat)(v u:DZ):Prop where
 sep:Sep w0 w [rowF v,rowF u]
 area:w.ownsRow 0 5 1 v (arL L i).length (byV (arL L i))
 plc:w.ownsRow 0 164 1 u (upN i 16) (u64V (plcN L i))
 len:(plcN L i).length=upN i 16
theorem qvl(L:List DV)(A:oA)(n c:Nat)(w:DU)(hS:SlAt zeS 1 w A L)(hn:L.length=n)(hb:n<=140737488355328):
  Gv Eg 80 [.slice A n c,ii 1099511627776] w λr w'=>DBuR (txs L) w w' r:=by
 refine ze Tryz.func80 Tryz.ntmps80 ?_;refine zC (λ_=>zw ?_) (λ_=>zw ?_)
 ·have e:dicE (txs L)=2:=q2v (by rw[qhp];omega);exact .inl ⟨by rw[e];decide,by rw[e];rfl,Ext.refl w⟩
 have ag:¬4194304<(txs L).length:=by rw[qhp];omega
 refine qk (λi:Nat=>[(0,.slice A n c),(1,ii 1099511627776),(6,ii i)]) (λi w1=>i<=n/\(∀j,j<i->¬262144<(tx (txs L) j).length)/\w1=w) (λi=>n-i) 0 fq ⟨Ag _,λj h=>absurd h (BL _),rfl⟩ ?_;rintro i w1 cj ⟨i1,i2,rfl⟩;(conv=>whnf);refine zC (λ_=>zw ?_) (λ_=>zw ?_)
 ·have hi:i<L.length:=by omega
  have hx:=qk8 hi;refine ElemV.sl hS hn i rfl Oo ?_;intro eb eo Z;(conv=>whnf);refine LoadV.cell0 Z (zw ?_);refine zC (λ_=>zu ?_) (λ_=>zu ?_)
  ·have e:dicE (txs L)=2:=q2x (i:=i) Oo;exact .inl ⟨by rw[e];decide,by rw[e];rfl,xr⟩
  ·refine⟨i+1,⟨rfl,rfl,Ae (Value.int .i64) Oo,trivial⟩,⟨by omega,λj hj=>?_,rfl⟩,by omega⟩
   by_cases e:j=i
   ·subst e;omega
   ·exact i2 j Oo
 obtain rfl:i=n:=by omega
 have a3:∀j,¬262144<(tx (txs L) j).length:=λj=>by
  by_cases hj:j<i
  ·exact i2 j hj
  ·rw[qah1 Oo];decide
 refine qk (λk:Nat=>[(0,.slice A i c),(1,ii 1099511627776),(7,ii (k+1:Nat))]) (λk w2=>(∀j,j<k->j+1<L.length->leL (tx (txs L) (j+1)) (tx (txs L) j)=false)/\Ext w1 w2) (λk=>i-k) 0 fq ⟨λj h=>by omega,Ext.refl w1⟩ ?_;rintro k w2 ck ⟨k1,a4⟩;(conv=>whnf);refine zC (λ_=>zw ?_) (λ_=>zw ?_)
 ·have hk:k+1<L.length:=by omega
  obtain⟨b,ba,rfl,aj⟩:=(hS.ext a4).at_ (by intro e;rw[e]at hk;cases hk);have bz:=(aj k _ (zge Oo)).ext (Ext.refl w2).drew;have b0:=(aj (k+1) _ (zge hk)).ext (Ext.refl w2).drew;refine zy ?_;refine zv ?_;refine⟨⟨b,ba,k,rfl,by omega,by omega,?_⟩⟩;refine zu ?_;refine LoadV.cell0 bz (zu ?_);refine⟨⟨b,ba,k+1,rfl,by omega,by omega,?_⟩⟩;refine zu ?_;refine LoadV.cell0 b0 (zu ?_);have bb:=a4.drew;have ao:=qafo hk (show k<L.length by omega);refine Tst.both (λar=>?_) λar=>?_
  ·refine zu ?_;refine⟨k+1,⟨rfl,rfl,Ae (Value.int .i64) Oo,trivial⟩,⟨λj hj b1=>?_,bb⟩,by omega⟩
   by_cases e:j=k
   ·subst e;rw[ao,<-DO];exact λg=>by rw[qado.2 g]at ar;cases ar
   ·exact k1 j Oo b1
  ·(conv=>whnf);have e:dicE (txs L)=160:=q2w ag a3 (i:=k) (by rw[qhp];exact hk) (by rw[ao];exact qado.1 ar);exact .inl ⟨by rw[e];decide,by rw[e];rfl,bb⟩
 have hE:chkD (txs L)=0:=qaeq ag a3 (λj hj=>by rw[qhp]at hj;exact k1 j Oo hj);have cl:i<=4194304:=by rw[qhp]at ag;omega
 clear k1 ag a3 i2;refine qk (λx:Nat×oA×Nat×oA×Nat=>[(0,.slice A i c),(1,ii 1099511627776),(8,.slice x.2.1 (arL (txs L) x.1).length x.2.2.1),(9,.slice x.2.2.2.1 (upN x.1 16) x.2.2.2.2),(10,ii x.1)])
  (λx w'=>x.1<=i/\DcS (txs L) w1 w' x.1 (.slice x.2.1 (arL (txs L) x.1).length x.2.2.1) (.slice x.2.2.2.1 (upN x.1 16) x.2.2.2.2)) (λx=>i-x.1) (0,none,0,none,0) fq ⟨Ag _,⟨((Sep.of a4).add (F:=rowF (.slice none 0 0)) (Ext.refl w2) (λk hk=>by cases hk)).add (F:=rowF (.slice none 0 0)) (Ext.refl w2) (λk hk=>by cases hk),World.ownsRow_nil _ _ _ _,World.ownsRow_nil _ _ _ _,rfl⟩⟩ ?_
 rintro⟨j,B,cB,P,cP⟩ w3 cn ⟨j1,hD⟩;dsimp only at j1 hD|-;have b2:=q1z (L:=txs L) hE (i:=j) (by rw[qhp];omega);have b3:upN j 16<=262144:=by unfold upN;omega
 (conv=>whnf)
 (repeat'(first|refine zp ?_|refine zC (λ_=>zw ?_) (λ_=>zw ?_)))
 ·have hj:j<L.length:=by omega
  have b4:=q67 hE hj;have hx:=qoy hj;have aq:(tx (txs L) j).length=L[j].size:=qk8 hj;have af:j%16=0:=by omega
  refine⟨λnb w4 be hw=>?_⟩;have ah:Ext w3 w4:=by rw[hw];exact(Ext.refl w3).alloc _
  have b5:w4.heap[nb]?=some (.cells #[.int .u64 (arL (txs L) j).length] 164):=by rw[hw,be];exact heap_alloc_new w3 _
  have aa:=hD.sep.call ah;have au:=qbj hD.area ah;have av:=qbj hD.plc ah;have ak:=hD.len;clear be hw;(conv=>whnf);refine AppV.cell qah3 u64I u64Z Jk rfl (by decide +kernel) av b5 rfl Oo ?_;intro P5 a5 w5 aw ax am;obtain⟨aa,_,ai⟩:=aa.row (i:=1) (F':=rowF (.slice P5 (upN j 16+1) a5)) rfl ax am;have ay:=qcp au (ai 0 _ rfl Od);(conv=>whnf);obtain⟨eb,eo,rfl,aj⟩:=hS.at_ (by intro e;rw[e]at hj;cases hj);have Z:=aj j _ (zge hj);rw[AZ]at Z;have ad:=aa.at_ (i:=0) rfl;have ad:∀k∈rowF (.slice B (arL (txs L) j).length cB),w1.heap.size<=k:=λk hk=>(ad k hk).1
  have a6:arL (txs L) (j+1)=arL (txs L) j++(varL L[j].size++L[j].data.toList):=by rw[qad9 _ af,aq,hx]
  refine DrawV.gen (λS U w'=>PuI w5 (.slice B (arL (txs L) j).length cB) (arL (txs L) (j+1)) (S 10) (S 11) (U 10) (U 11) w') rfl Jk (λU=>PuI.start (Ext.refl w5).drew) (zw ?_);(iterate 3 (refine zg ?_));refine StepG.of (.pointer (some ⟨eb,eo+j,none⟩)) (λS U wd hk hp V=>zw ?_) (zw ?_)
  ·refine⟨⟨eb,eo,j,rfl,by omega,by omega,?_⟩⟩;rw[show tsz Eg 9=1 from by kernel_rfl,AZ];(conv=>whnf);exact⟨rfl,V⟩
  refine StepG.of (.string L[j]) (λS U wd hk hp V=>zw ?_) (zw ?_)
  ·refine LoadV.cell0 (CellsAt.ext Z (V.ext aa.ext ad)) (zw ?_);exact⟨rfl,V⟩
  (iterate 3 (refine zg ?_));refine StepG.of (.pointer (some ⟨eb,eo+j,none⟩)) (λS U wd hk hp V=>zw ?_) (zw ?_)
  ·refine⟨⟨eb,eo,j,rfl,by omega,by omega,?_⟩⟩;rw[show tsz Eg 9=1 from by kernel_rfl,AZ];(conv=>whnf);exact⟨rfl,V⟩
  refine StepG.of (.string L[j]) (λS U wd hk hp V=>zw ?_) (zw ?_)
  ·refine LoadV.cell0 (CellsAt.ext Z (V.ext aa.ext ad)) (zw ?_);exact⟨rfl,V⟩
  refine StepG.any (λS U wd hk hp V=>?_) (zw ?_)
  ·dsimp only at V;rw[hk]at V;(conv=>whnf);refine zcv (qqq _ (arL (txs L) j) L[j].size L[j] wd (qbj ay V.before) Oo Oo) ?_;rintro r wx hR;rw[<-a6]at hR;exact⟨trivial,V.put (hR.back V.before)⟩
  refine StepG.any (λS U wd hk hp V=>?_) (zw ?_)
  ·dsimp only at V;have bf:S 10=true:=hp 10 Od;rw[hk,bf]at V;obtain⟨Ax,cx,hv⟩:=V.val;rw[hv]at V;rw[qp hv];(conv=>whnf);refine⟨trivial,?_⟩;show PuI _ _ _ (S 10) true _ _ _;rw[bf];exact V.keep
  intro U w6 V;obtain⟨b6,hR⟩:=V.done;obtain⟨B6,al,hv⟩:=hR.own;rw[qp (b6.trans hv)];rw[hv]at hR;clear V;obtain⟨aa,_,ai⟩:=aa.row (i:=0) (F':=rowF (.slice B6 (arL (txs L) (j+1)).length al)) rfl hR.chg hR.new;have a7:=qcp aw (ai 1 _ rfl Od);have ae:upN (j+1) 16=upN j 16+1:=by unfold upN;omega
  refine zu ?_;refine⟨(j+1,B6,al,P5,a5),⟨rfl,rfl,rfl,by show Value.slice _ _ _=_;rw[ae],Ae (Value.int .i64) Oo,trivial⟩,⟨by show j+1<=i;omega,?_⟩,by show i-(j+1)<i-j;omega⟩;show DcS (txs L) w1 w6 (j+1) (.slice B6 (arL (txs L) (j+1)).length al) (.slice P5 (upN (j+1) 16) a5);rw[ae];refine⟨aa,hR.row,?_,?_⟩
  ·rw[ae,qys _ af,u64V,AJ];exact a7
  ·rw[ae,qys _ af,zla,ak];rfl
 ·have hj:j<L.length:=by omega
  have af:j%16≠0:=by omega
  have cq:j≠0:=λe=>af (by rw[e])
  have b4:=q67 hE hj;have ci:=q67 hE (i:=j-1) Oo;have hx:=qoy hj;have b7:=qoy (L:=L) (i:=j-1) Oo;have aq:(tx (txs L) j).length=L[j].size:=qk8 hj;have bg:=qlo (tx (txs L) (j-1)) (tx (txs L) j);rw[aq]at bg;obtain⟨eb,eo,rfl,aj⟩:=hS.at_ (by intro e;rw[e]at hj;cases hj);have Z:=aj j _ (zge hj);have az:=aj (j-1) _ (zge (show j-1<L.length by omega));have bh:Ext w1 w3.drew:=hD.sep.ext.drew;refine DrawV.free rfl Jk (zw ?_);(iterate 3 (refine zd ?_));apply zsd
  ·intro wd hd;(conv=>whnf);refine⟨⟨eb,eo,j-1,rfl,by omega,by omega,?_⟩⟩;exact xq
  (conv=>whnf);apply zsd
  ·intro wd hd;(conv=>whnf);refine LoadV.cell0 (CellsAt.ext az (bh.trans hd)) (zw ?_);exact xq
  (conv=>whnf);refine zd ?_;refine zd ?_;apply zsd
  ·intro wd hd;(conv=>whnf);refine⟨⟨eb,eo,j,rfl,by omega,by omega,?_⟩⟩;exact xq
  (conv=>whnf);apply zsd
  ·intro wd hd;(conv=>whnf);refine LoadV.cell0 (CellsAt.ext Z (bh.trans hd)) (zw ?_);exact xq
  (conv=>whnf);apply zsd
  ·intro wd hd;(conv=>whnf);refine zcv (qn7 (L[j-1]' Oo) L[j] wd Oo) ?_;rintro r wx ⟨rfl,hex⟩;exact⟨hex,rfl⟩
  (conv=>whnf);refine zd ?_;intro w4 ah;have ah:Ext w3 w4:=(Ext.refl w3).drew.trans ah;conv=>whnf
  (repeat(intro _ _;(conv=>whnf)))
  rw[<-b7,<-hx];obtain⟨cm,bi⟩:∃cm,cm=comL (tx (txs L) (j-1)) (tx (txs L) j):=⟨_,rfl⟩
  rw[<-bi]at bg|-;have aa:=hD.sep.call ah;have au:=qbj hD.area ah;have av:=qbj hD.plc ah;have ak:=hD.len;have bj:=qbk 9 cm Oo;have bk:=qbk 9 (L[j].size-cm) Oo;clear hD;refine zv ?_;refine zcv (qe9 cm w4 Oo) ?_;rintro r w5 ⟨⟨Bv,dv,rfl,cr,bl⟩,an⟩;have aa:=aa.call an;have ay:=qbj au an;have aw:=qbj av an;(conv=>whnf);refine AppV.bys qdo bytI bytZ Jk rfl (by decide +kernel) ay bl Oo ?_;intro B6 al w6 bm ax am;obtain⟨aa,_,ai⟩:=aa.row (i:=0) (F':=rowF (.slice B6 ((arL (txs L) j).length+(varL cm).length) al)) rfl ax am;have a7:=qcp aw (ai 1 _ rfl Od);obtain⟨Y,eY⟩:∃Y,Y=arL (txs L) j++varL cm:=⟨_,rfl⟩
  have bn:(arL (txs L) j).length+(varL cm).length=Y.length:=by rw[eY,zla]
  rw[<-eY,bn]at bm;rw[bn]at aa|-;clear ax am au ay av aw bl ai;(conv=>whnf);have ad:=aa.at_ (i:=0) rfl;have ad:∀k∈rowF (.slice B6 Y.length al),w1.heap.size<=k:=λk hk=>(ad k hk).1
  obtain⟨sx,bo⟩:∃sx,sx=L[j].extract cm L[j].size:=⟨_,rfl⟩
  have bp:sx.data.toList=(tx (txs L) j).drop cm:=by rw[bo,qbv,hx];exact Am (by rw[zld];exact Ai _)
  have ct:sx.data.toList.length=L[j].size-cm:=by rw[bp,zld,aq]
  have a6:arL (txs L) (j+1)=Y++(varL (L[j].size-cm)++sx.data.toList):=by rw[q76 _ af,aq,<-bi,bp,eY];simp only[Aw]
  have bq:Ext w1 w6:=aa.ext;refine DrawV.gen (λS U w'=>PuI w6 (.slice B6 Y.length al) (arL (txs L) (j+1)) (S 14) (S 15) (U 14) (U 15) w') rfl Jk (λU=>PuI.start (Ext.refl w6).drew) (zw ?_);(iterate 3 (refine zg ?_));refine StepG.of (.pointer (some ⟨eb,eo+j,none⟩)) (λS U wd hk hp V=>zw ?_) (zw ?_)
  ·refine⟨⟨eb,eo,j,rfl,by omega,by omega,?_⟩⟩;rw[show tsz Eg 9=1 from by kernel_rfl,AZ];(conv=>whnf);exact⟨rfl,V⟩
  refine StepG.of (.string L[j]) (λS U wd hk hp V=>zw ?_) (zw ?_)
  ·refine LoadV.cell0 (CellsAt.ext (by rw[AZ]at Z;exact Z) (V.ext bq ad)) (zw ?_);exact⟨rfl,V⟩
  refine zg ?_;refine zg ?_;refine StepG.of (ii ((L[j].size-cm:Nat):Int)) (λS U wd hk hp V=>?_) (zw ?_)
  ·refine zu ?_;exact⟨Ae (Value.int .i64) Oo,V⟩
  refine zg ?_;refine zg ?_;refine StepG.of (.pointer (some ⟨eb,eo+j,none⟩)) (λS U wd hk hp V=>zw ?_) (zw ?_)
  ·refine⟨⟨eb,eo,j,rfl,by omega,by omega,?_⟩⟩;rw[show tsz Eg 9=1 from by kernel_rfl,AZ];(conv=>whnf);exact⟨rfl,V⟩
  refine StepG.of (.string L[j]) (λS U wd hk hp V=>zw ?_) (zw ?_)
  ·refine LoadV.cell0 (CellsAt.ext (by rw[AZ]at Z;exact Z) (V.ext bq ad)) (zw ?_);exact⟨rfl,V⟩
  refine zg ?_;refine StepG.of (.string sx) (λS U wd hk hp V=>zw ?_) (zw ?_)
  ·refine⟨cm,L[j].size,rfl,rfl,by omega,Ai _,?_⟩;rw[<-bo];(conv=>whnf);exact⟨rfl,V⟩
  refine StepG.any (λS U wd hk hp V=>?_) (zw ?_)
  ·dsimp only at V;rw[hk]at V;(conv=>whnf);refine zcv (qqq _ Y (L[j].size-cm) sx wd (qbj bm V.before) Oo (by rw[eY,zla];show _+sx.data.toList.length+16<=_;omega)) ?_;rintro r wx hR;rw[<-a6]at hR;exact⟨trivial,V.put (hR.back V.before)⟩
  refine StepG.any (λS U wd hk hp V=>?_) (zw ?_)
  ·dsimp only at V;have br:S 14=true:=hp 14 Od;rw[hk,br]at V;obtain⟨Ax,cx,hv⟩:=V.val;rw[hv]at V;rw[qp hv];(conv=>whnf);refine⟨trivial,?_⟩;show PuI _ _ _ (S 14) true _ _ _;rw[br];exact V.keep
  intro U w7 V;obtain⟨b8,hR⟩:=V.done;obtain⟨B7,a8,hv⟩:=hR.own;rw[qp (b8.trans hv)];rw[hv]at hR;clear V;obtain⟨aa,_,ai⟩:=aa.row (i:=0) (F':=rowF (.slice B7 (arL (txs L) (j+1)).length a8)) rfl hR.chg hR.new;have b9:=qcp a7 (ai 1 _ rfl Od);have ae:upN (j+1) 16=upN j 16:=by unfold upN;omega
  refine zu ?_;refine⟨(j+1,B7,a8,P,cP),⟨rfl,rfl,rfl,by show Value.slice _ _ _=_;rw[ae],Ae (Value.int .i64) Oo,trivial⟩,⟨by show j+1<=i;omega,?_⟩,by show i-(j+1)<i-j;omega⟩;show DcS (txs L) w1 w7 (j+1) (.slice B7 (arL (txs L) (j+1)).length a8) (.slice P (upN (j+1) 16) cP);rw[ae];refine⟨aa,hR.row,?_,?_⟩
  ·rw[ae,qs6 _ af];exact b9
  ·rw[ae,qs6 _ af,ak]
 ·obtain rfl:j=i:=by omega
  have aa:=hD.sep;have hA:=hD.area;have hP:=hD.plc;have ak:=hD.len;have a0:(txs L).length=j:=by rw[qhp,hn]
  have bt:arL (txs L) j=qam (txs L):=by rw[qam,a0]
  have cc:plcN (txs L) j=plcL (txs L):=by rw[<-a0];rfl
  rw[bt]at aa hA b2|-;rw[cc]at hP ak;clear hD;have bu:=qqf (n:=(qam (txs L)).length) Oo;have a9:qah (qam (txs L)).length<=64:=qcq 64 _ Oo Od;refine zcv (qel (qam (txs L)).length w3 Oo) ?_;rintro r w4 ⟨rfl,rfl⟩;have bv:∀x∈plcL (txs L),x<2 ^ qah (qam (txs L)).length:=λx hx=>by
   rw[plcL,AF]at hx;obtain⟨k,hk,rfl⟩:=hx;rw[BP,a0]at hk;refine BI ?_ bu;rw[<-bt];exact q77 _ (by unfold upN at hk;omega)
  (conv=>whnf);refine zcv (qtk (plcL (txs L)) (qah (qam (txs L)).length) P (upN j 16) cP w4 (q5o hP ak) ak Oo (AI (B8 b3 a9) Od) bv a9) ?_;rintro r w5 ⟨vp,rfl,a1⟩;obtain⟨Ap,cp,ep,_,bw⟩:=a1.bs;subst ep;have cd:SlAt encB 1 w5 B (qam (txs L)):=(qve hA rfl).ext a1.ext;have an:Ext w1 w5:=aa.ext.trans a1.ext;have a2:=qbz (plcL (txs L)) (qah (qam (txs L)).length);have ce:(plcL (txs L)).length*qah (qam (txs L)).length<=262144*64:=B8 Oo a9;have eD:varL j++varL (qam (txs L)).length++qcv (plcL (txs L)) (qah (qam (txs L)).length)++qam (txs L)=qw (txs L):=by rw[qw,a0];simp only[Aw]
  obtain⟨pk,cf⟩:∃pk,pk=qcv (plcL (txs L)) (qah (qam (txs L)).length):=⟨_,rfl⟩
  obtain⟨pr,cg⟩:∃pr,pr=(plcL (txs L)).length*qah (qam (txs L)).length:=⟨_,rfl⟩
  rw[<-cf]at bw a2 eD|-;rw[<-cg]at a2 ce;have bj:=qbk 9 j Oo;have bk:=qbk 9 (qam (txs L)).length Oo;clear a1 hP hA aa;have hO:RowS w5 w5 (.slice none 0 0) []:=RowS.nil (Ext.refl w5);have e0:∀a:LB,a++(⟨#[]⟩:DV).data.toList=a:=λa=>B4 a
  (conv=>whnf);refine zcv (qqq _ [] j ⟨#[]⟩ w5 hO.row Oo Od) ?_;rintro r w6 hR;rw[e0,Bn]at hR;obtain⟨A6,c6,rfl⟩:=hR.own;have hO:=hO.chg hR.row hR.chg hR.new;clear hR;(conv=>whnf);refine zcv (qqq _ (varL j) (qam (txs L)).length ⟨#[]⟩ w6 hO.row Oo (by show(varL j).length+0+16<=_;omega)) ?_;rintro r w7 hR;rw[e0]at hR;obtain⟨A7,c7,rfl⟩:=hR.own;have hO:=hO.chg hR.row hR.chg hR.new;clear hR;have cu:(varL j++varL (qam (txs L)).length).length<=20:=by rw[zla];omega
  (conv=>whnf);refine hO.bys (bw.ext hO.ext) Oo ?_;clear hO;intro A8 c8 w8 hO;have cv:(varL j++varL (qam (txs L)).length++pk).length<=20+pk.length:=by rw[zla];omega
  (conv=>whnf);refine hO.bys (cd.ext hO.ext) Oo ?_;clear hO;intro A9 c9 w9 hO;rw[eD]at hO|-;have cw:(qw (txs L)).length<=20+pk.length+(qam (txs L)).length:=by rw[<-eD,zla];omega
  (conv=>whnf);refine zC (λ_=>zu ?_) (λ_=>zu ?_)
  ·have ao:67108864<(qam (txs L)).length:=by omega
   exact .inl ⟨by rw[qr3 hE ao];decide,by rw[qr3 hE ao];rfl,an.trans hO.ext⟩
  ·exact .inr ⟨q80 hE Oo,_,rfl,hO.new.back an⟩
def vocY(T:List TM):Nat->LB
 | 0=>[]
 | k+1=>vocY T k++qw (secE T k)
theorem qaic(T:List TM):vocW T 3++vocY T 3=vocB T:=by
 rw[qaib];simp only[vocY,Bn,Aw]
theorem qwr{T:List TM}:∀{i:Nat},i<=3->(∀j,j<i->dicE (secE T j)=0)->(vocY T i).length<=70000000*i
 | 0,_,_=>Ai _
 | i+1,h,U=>by
  have V:=qwr (T:=T) (i:=i) Oo λj Z=>U j Oo
  have h2:=qpn (U i Oo);rw[vocY,zla];omega
structure RvS(T:List TM)(w0 w:DU)(i:Nat)(u v:DZ):Prop where
 sep:Sep w0 w [rowF u,rowF v]
 hd:w.ownsRow 0 5 1 u (vocW T i).length (byV (vocW T i))
 bd:w.ownsRow 0 5 1 v (vocY T i).length (byV (vocY T i))
def RVuR(U:List Q4)(w w':DU)(r:DZ):Prop:=
 (∃e:Nat,e≠0/\e=(if valE U≠0 then valE U else qhu (tmsQ U))/\r=.tuple #[.slice none 0 0,ii e]/\Ext w w')\/
 (valE U=0/\qhu (tmsQ U)=0/\∃v,r=.tuple #[v,ii 0]/\NewS 5 w w' v (vocB (tmsQ U)))
theorem qvz(qs:List Q4)(A:oA)(n c:Nat)(w:DU)(hS:SlAt qf 16 w A qs)(hn:qs.length=n)(hb:n<=140737488355328)(hq:∀q∈qs,qa5 q):
  Gv Eg 32 [.slice A n c,ii 1099511627776] w λr w'=>RVuR qs w w' r:=by
 subst hn;have t1:tsz Eg 3=1:=by kernel_rfl
 refine ze Tryz.func32 Tryz.ntmps32 ?_;refine zcv (qwm qs A qs.length c w hS rfl hb hq) ?_;rintro r w1 ⟨⟨i0,rfl⟩,ah⟩
 by_cases hE:valE qs=0
 case neg=>
  have h0:¬((valE qs:Nat):Int)=0:=by omega
  refine zu ?_;exact .inl ⟨valE qs,hE,by rw[Ad hE],rfl,ah⟩
 have bl:=(qep hE).1;have bm:=qwf hE;have a6:=λt (ht:t∈tmsQ qs)=>qgg hE ht
 have a7:∀t∈tmsQ qs,TermOk t:=λt ht=>by
  obtain⟨q,h1,h2⟩:=qgn.1 ht;exact q0s (hq q h1) h2
 unfold RVuR;rw[Aa (λg=>g hE)];rw[hE];refine zu ?_;refine zcv (qge qs A c w1 (hS.ext ah) Oo) ?_;rintro r w2 ⟨⟨B,d,rfl,hd,ae⟩,a8⟩;have ae:SlAt encT 4 w2 B (tmsQ qs):=ae;have hd:(tmsQ qs).length<=d:=hd;show _;generalize eT:tmsQ qs=T at *;have a9:tmsN (trms qs).length (trms qs)=T:=eT;rw[a9];(conv=>whnf);refine zcv (ql4 w2) ?_;rintro r w3 ⟨rfl,al⟩;(conv=>whnf);refine znm (Mem.nil w3) λkb w4 hm=>zw ?_;refine StoreA.all (vs:=[ii 1,ii 2,ii 3]) hm (i:=0) rfl rfl (by simp[Value.oneCell']) ?_;intro w5 hm;have ba:CellsAt w5 kb 0 [ii 1,ii 2,ii 3]:=CellsAt.mem hm mh;have am:Ext w w5:=ah.trans (a8.trans (al.trans hm.ext));have ae:=ae.ext (al.trans hm.ext);clear hm;(conv=>whnf);refine qk (λx:Nat×oA×Nat×oA×Nat=>[(1,ii 1099511627776),(8,.slice B T.length d),(9,.slice x.2.1 (vocW T x.1).length x.2.2.1),(10,.slice x.2.2.2.1 (vocY T x.1).length x.2.2.2.2),(11,pp kb),(12,ii x.1)])
  (λx w'=>x.1<=3/\(∀j,j<x.1->dicE (secE T j)=0)/\RvS T w5 w' x.1 (.slice x.2.1 (vocW T x.1).length x.2.2.1) (.slice x.2.2.2.1 (vocY T x.1).length x.2.2.2.2)) (λx=>3-x.1) (0,none,0,none,0) fq
  ⟨Ag _,λj h=>absurd h (BL _),((Sep.of (Ext.refl w5)).add (F:=rowF (.slice none 0 0)) (Ext.refl w5) (λk hk=>by cases hk)).add (F:=rowF (.slice none 0 0)) (Ext.refl w5) (λk hk=>by cases hk),World.ownsRow_nil _ _ _ _,World.ownsRow_nil _ _ _ _⟩ ?_
 rintro⟨i,H,cH,Y,cY⟩ w6 bn ⟨i1,i2,hR⟩;dsimp only at i1 i2 hR|-;have bo:=qwq i1 i2;have bp:=qwr i1 i2;(conv=>whnf);refine zC (λ_=>zw ?_) (λ_=>zw ?_)
 ·have bb:i<3:=by omega
  have be:([ii 1,ii 2,ii 3]:Ee)[i]?=some (ii ((i+1:Nat):Int)):=by
   rcases(show i=0\/i=1\/i=2 by omega)with rfl|rfl|rfl<;>rfl
  refine qk (λy:Nat×oA×Nat=>[(1,ii 1099511627776),(8,.slice B T.length d),(9,.slice H (vocW T i).length cH),(10,.slice Y (vocY T i).length cY),(11,pp kb),(12,ii i),(13,.slice y.2.1 (secA (T.take y.1) i).length y.2.2),(14,ii y.1)])
   (λy w'=>y.1<=T.length/\Rw w6 w' (.slice y.2.1 (secA (T.take y.1) i).length y.2.2) 9 1 (secA (T.take y.1) i).length (strV (secA (T.take y.1) i)) []) (λy=>T.length-y.1) (0,none,0) fq ⟨Ag _,Rw.nil (Mem.nil w6)⟩ ?_
  rintro⟨j,E,cE⟩ w7 bq ⟨j1,U⟩;dsimp only at j1 U|-;have ai:Ext w5 w7:=hR.sep.ext.trans U.mem.ext;have an:=qaba (T.take j) i;rw[Az]at an;(conv=>whnf);refine zC (λ_=>zw ?_) (λ_=>zw ?_)
  ·have hj:j<T.length:=by omega
   have aj:=AH hj;have ak:T.take (j+1)=T.take j++[T[j]]:=by rw[BD,zge hj];rfl
   obtain⟨tb,ao,eB,bf⟩:=(ae.ext ai).at_ (by intro e;rw[e]at hj;cases hj);have V:=bf j _ (zge hj);have aq:=ba.ext ai;obtain⟨t,et⟩:∃t,t=T[j]:=⟨_,rfl⟩
   rw[<-et]at aj ak V;obtain⟨tE,k1,k3⟩:=a6 t aj;subst eB;have aa:Ext w7 w7.drew:=(Ext.refl w7).drew;refine zy ?_;refine zv ?_;refine⟨⟨tb,ao,j,rfl,by omega,by omega,?_⟩⟩;refine zu ?_;refine LoadV.cell0 (V.ext aa) (zu ?_);refine LoadV.of (by rw[t1,AZ];exact(aq.ext aa) i _ be) (zw ?_);have V:=V.ext aa;have U:=U.call aa;generalize w7.drew=w8 at *;refine zt ?_;refine zC (λ_=>zu ?_) (λ_=>zu ?_)
   ·have hk:t.kind=((i+1:Nat):Int):=by omega
    refine⟨⟨tb,ao,j,rfl,by omega,by omega,?_⟩⟩;(conv=>whnf);refine LoadA.cells V rfl (zw ?_);refine zcv (qlu t (a7 t aj) w8) ?_;rintro r w9 ⟨rfl,ad⟩;rw[Ad tE];have U:=U.call ad;(conv=>whnf);refine NewV.rw U λnb bg U=>zw ?_;refine AppV.one qv9 strI strZ Jk rfl (by decide +kernel) U rfl Oo ?_;clear U;intro E2 ar au U;refine zu ?_;have es:secA (T.take (j+1)) i=secA (T.take j) i++[entA t]:=by rw[ak,qaa9 hk]
    have el:(secA (T.take (j+1)) i).length=(secA (T.take j) i).length+1:=by rw[es];simp
    refine⟨(j+1,E2,ar),⟨rfl,rfl,rfl,rfl,rfl,rfl,by show Value.slice _ _ _=_;rw[el],Ae (Value.int .i64) Oo,trivial⟩,⟨by show j+1<=T.length;omega,?_⟩,by show T.length-(j+1)<T.length-j;omega⟩;show Rw w6 au (.slice E2 (secA (T.take (j+1)) i).length ar) 9 1 _ _ _;rw[el,es,strV,AJ];exact U
   ·have hk:t.kind≠((i+1:Nat):Int):=by omega
    have es:secA (T.take (j+1)) i=secA (T.take j) i:=by rw[ak,q6g hk]
    refine⟨(j+1,E,cE),⟨rfl,rfl,rfl,rfl,rfl,rfl,by show Value.slice _ _ _=_;rw[es],Ae (Value.int .i64) Oo,trivial⟩,⟨by show j+1<=T.length;omega,?_⟩,by show T.length-(j+1)<T.length-j;omega⟩;show Rw w6 w8 (.slice E (secA (T.take (j+1)) i).length cE) 9 1 _ _ _;rw[es];exact U
  ·obtain rfl:j=T.length:=by omega
   rw[Cb]at U an|-;have bh:SlAt zeS 1 w7 E (secA T i):=qqo (f:=Value.string) U.own rfl;refine zcv (qvl (secA T i) E (secA T i).length cE w7 bh rfl Oo) ?_;rintro r w8 av;rw[qabb]at av
   rcases av with⟨h0,rfl,aa⟩|⟨h0,v,rfl,hN⟩
   ·have h1:¬((dicE (secE T i):Nat):Int)=0:=by omega
    refine zu ?_;exact .inl ⟨dicE (secE T i),h0,(qab8 bb i2 h0).symm,rfl,am.trans (ai.trans aa)⟩
   ·have bk:=qpn h0;have aa:=U.mem.ext.trans hN.ext;have af:=(hR.sep.call U.mem.ext).add hN.ext hN.lo;obtain⟨Av,cv,ev,br,ag⟩:=id hN.bs;subst ev;have bt:=qbk 9 (qw (secE T i)).length Oo;refine zu ?_;refine zcv (qe9 (qw (secE T i)).length w8 Oo) ?_;rintro r w9 ⟨⟨Bv,dv,rfl,bu,aw⟩,ad⟩;have af:=af.call ad;have ax:=qbj (qbj hR.hd aa) ad;have ay:=qbj (qbj hR.bd aa) ad;have ag:=ag.ext ad;(conv=>whnf);refine AppV.bys qdo bytI bytZ Jk rfl (by decide +kernel) ax aw Oo ?_;intro H2 az bg ho hc hn;have eW:(vocW T i).length+(varL (qw (secE T i)).length).length=(vocW T (i+1)).length:=by rw[vocW,zla]
    rw[eW]at ho hn|-;have hs:=af.row (i:=1) (F':=rowF (.slice H2 (vocW T (i+1)).length az)) rfl hc hn;have a0:=qcp ay (hs.keep 2 _ rfl Od);have ag:=ag.keep λk hk=>hs.keep 0 _ rfl Od k (by rw[qy4 _ _ _ 0 0];exact hk)
    have af:=hs.sep;clear hc hn ax ay aw hs;(conv=>whnf);refine AppV.bys qdo bytI bytZ Jk rfl (by decide +kernel) a0 ag Oo ?_;intro Y2 a1 au a2 bi a3;have eY:(vocY T i).length+(qw (secE T i)).length=(vocY T (i+1)).length:=by rw[vocY,zla]
    rw[eY]at a2 a3|-;have a4:=af.row (i:=2) (F':=rowF (.slice Y2 (vocY T (i+1)).length a1)) rfl bi a3;have a5:=qcp ho (a4.keep 1 _ rfl Od);refine zu ?_;refine⟨(i+1,H2,az,Y2,a1),⟨rfl,rfl,rfl,rfl,rfl,Ae (Value.int .i64) Oo,trivial⟩,⟨by show i+1<=3;omega,λj hj=>?_,a4.sep.drop 1,a5,a2⟩,by show 3-(i+1)<3-i;omega⟩
    by_cases e:j=i
    ·subst e;exact h0
    ·exact i2 j (by have:j<i+1:=hj;omega)
 ·obtain rfl:i=3:=by omega
  have bj:SlAt encB 1 w6 Y (vocY T 3):=qve hR.bd rfl;refine AppV.bys qdo bytI bytZ Jk rfl (by decide +kernel) hR.hd bj Oo ?_;intro Z cZ w7 ho hc hn;have eL:(vocW T 3).length+(vocY T 3).length=(vocB T).length:=by rw[<-qaic,zla]
  rw[qaic]at ho;rw[eL]at ho hn|-;have hs:=hR.sep.row (i:=0) (F':=rowF (.slice Z (vocB T).length cZ)) rfl hc hn;have hO:RowS w5 w7 (.slice Z (vocB T).length cZ) (vocB T):=⟨(hs.sep.perm (List.Perm.swap _ _ _)).drop 1,ho⟩
  refine zu ?_;exact .inr ⟨rfl,qab9 i2,_,rfl,hO.new.back am⟩
theorem qvs(Q:Nat->Nat->Nat)(n:Nat)(hQ:TOk Q n)(hi:i<n)(w:DU):Gv Eg 84 [idsW (Q i)] w λr w'=>r=.bool true/\Ext w w':=by
 have V:tsz Eg 3=1:=by kernel_rfl
 refine ze Tryz.func84 Tryz.ntmps84 ?_;refine znm (Mem.nil w) ?_;intro b Z hm;have hc:CellsAt Z b 0 (idsE (Q i)):=CellsAt.mem hm mh;(conv=>whnf);refine qk (λk:Nat=>[(1,pp b),(3,ii k)]) (λk w'=>k<=4/\w'=Z) (λk=>4-k) 0 fq ⟨Ag _,rfl⟩ ?_;rintro k w2 aa ⟨k1,rfl⟩;conv=>whnf
 (repeat'(first|refine zp ?_|refine zC (λ_=>zw ?_) (λ_=>zw ?_)))
 case' refine_2=>exact⟨rfl,hm.ext⟩
 all_goals
  have U:k<4:=by omega
  have hr:=hQ.num i k hi U;refine LoadV.of (by rw[V,AZ];exact hc k _ (qe2 (Q i) U)) (zu ?_);refine LoadV.of (by rw[V,AZ];exact hc k _ (qe2 (Q i) U)) (zu ?_);exact⟨k+1,fq,⟨by omega,rfl⟩,by omega⟩
theorem qpi(a b:Nat->Nat)(w:DU){V:Nat}(hk:V<4)(he:∀j,j<V->a j=b j)(ad:a V<b V):Gv Eg 85 [idsW a,idsW b] w λr w'=>r=ii (-1)/\Ext w w':=by
 have t1:tsz Eg 3=1:=by kernel_rfl
 refine ze Tryz.func85 Tryz.ntmps85 ?_;refine znm (Mem.nil w) λb1 w1 Z=>zw ?_;refine znm Z λb2 w2 Z=>zw ?_;have c1:CellsAt w2 b1 0 (idsE a):=CellsAt.mem Z (zmc mh);have c2:CellsAt w2 b2 0 (idsE b):=CellsAt.mem Z mh;refine qk (λk:Nat=>[(2,pp b1),(3,pp b2),(5,ii k)]) (λk w'=>k<=V/\Ext w2 w') (λk=>V-k) 0 fq ⟨Ag _,xr⟩ ?_;rintro k w3 ae ⟨k1,U⟩;have h1:=c1.ext U.drew;have h2:=c2.ext U.drew;refine zu ?_;refine zy ?_;refine zv ?_;refine LoadV.of (by rw[t1,AZ];exact h1 k _ (qe2 a Oo)) (zu ?_);refine LoadV.of (by rw[t1,AZ];exact h2 k _ (qe2 b Oo)) (zw ?_)
 by_cases aa:k=V
 ·subst aa;refine zv ?_;exact⟨rfl,Z.ext.trans U.drew⟩
 ·have af:=he k Oo;have h1:=h1.ext xr.drew;have h2:=h2.ext xr.drew;refine zv ?_;refine zy ?_;refine zv ?_;refine LoadV.of (by rw[t1,AZ];exact h1 k _ (qe2 a Oo)) (zu ?_);refine LoadV.of (by rw[t1,AZ];exact h2 k _ (qe2 b Oo)) (zu ?_);exact⟨k+1,fq,⟨by omega,U.drew.drew⟩,by omega⟩
def boF(S:List Bool)(t:Nat):Nat:=if S.getD t false=true then 1 else 0
theorem qaee{t:Nat}(h:S.length<=t):boF S t=0:=by
 rw[boF,Ah,Bh h];rfl
def boC(S:List Bool)(e:Nat):Ee:=byV (qdl (upF (boF S) e) ((S.length+7)/8))
theorem qaed(S:List Bool)(e:Nat):(boC S e).length=(S.length+7)/8:=by rw[boC,qdn,qdm]
theorem qaec(S:List Bool):boC S S.length=byV (qdl (boF S) ((S.length+7)/8)):=by
 have e:upF (boF S) S.length=boF S:=funext λt=>by
  rw[upF]
  split
  ·rfl
  ·exact(qaee Oo).symm
 rw[boC,e]
theorem q8j{e:Nat}(h:boF S e=0):boC S (e+1)=boC S e:=by
 have e:upF (boF S) (e+1)=upF (boF S) e:=funext λt=>by
  rw[upF,upF]
  by_cases g:t=e
  ·subst g;rw[Ad Oo,Aa Oo,h]
  ·by_cases U:t<e
   ·rw[Ad U,Ad Oo]
   ·rw[Aa U,Aa Oo]
 rw[boC,boC,e]
theorem qs3(S:List Bool)(A:oA)(n c:Nat)(w:DU)(hS:SlAt encO 1 w A S)(hn:S.length=n)(hb:n<=4194304):
  Gv Eg 90 [.slice A n c] w λr w'=>NewS 5 w w' r (qdl (boF S) ((n+7)/8)):=by
 refine ze Tryz.func90 Tryz.ntmps90 ?_;refine zv ?_;refine⟨(n+7)/8,(n+7)/8,rfl,rfl,Ai _,by show(n+7)/8*1<=_;omega,by omega,λob w5 hb ae=>?_⟩;have af:=(Mem.nil w).new hb ae;have U:Mem w w5 [(ob,.cells (boC S 0).toArray 5)]:=by rw[boC,qzi,hn];exact af
 clear hb ae af;(conv=>whnf);refine qk (λi:Nat=>[(0,.slice A n c),(3,.slice (some ⟨ob,0,none⟩) ((n+7)/8) ((n+7)/8)),(4,ii i)])
  (λi w'=>i<=n/\Mem w w' [(ob,.cells (boC S i).toArray 5)]) (λi=>n-i) 0 fq ⟨Ag _,U⟩ ?_
 clear U;rintro i w6 ak ⟨i1,U⟩;(conv=>whnf);refine zC (λ_=>zw ?_) (λ_=>zw ?_)
 ·have hi:i<S.length:=by omega
  refine ElemV.sl (hS.ext U.ext) hn i rfl Oo ?_;intro eb eo aa;obtain⟨s,es⟩:∃s,s=S[i]:=⟨_,rfl⟩
  rw[<-es]at aa;have Z:boF S i=if s=true then 1 else 0:=by rw[boF,Ah,zge hi,es];rfl
  (conv=>whnf);refine LoadV.cell0 aa (zw ?_);cases s with
  | false=>
   have Z:boF S i=0:=Z;refine zv ?_;exact⟨i+1,fq,⟨by omega,by rw[q8j Z];exact U⟩,by omega⟩
  | true=>
   have Z:boF S i=1:=Z;have ag:=q7e (F:=boF S) (m:=(S.length+7)/8) (e:=i) Oo;rw[Z]at ag;have al:=qaed S i;have ai:(boC S i)[i/8]?=some (.int .u8 (byt (upF (boF S) i) (i/8):Nat)):=qko Oo;have am:=qxf (upF (boF S) i) (i/8);refine zv ?_;refine DrawV.own rfl Jk (zw ?_);(iterate 3 (refine zo ?_));apply StepO.still
   ·intro wd hd;(conv=>whnf);refine ElemV.own1 (i/8) rfl Oo (zw ?_);exact PostO.still xr rfl
   (conv=>whnf);apply StepO.still
   ·intro wd hd;(conv=>whnf);refine LoadV.mem (Mem.call (Mem.drew U) hd) (i:=0) rfl (by rw[An];exact ai) ?_;(conv=>whnf);exact PostO.still xr rfl
   (conv=>whnf);refine zo ?_;refine zo ?_;apply StepO.still
   ·intro ah hd;(conv=>whnf);refine V.Wit.shlN (a:=1) (i%8) Oo (by show i%8<8;omega) (qff ?_) ?_
    ·have h2:2 ^ (i%8)<=2 ^ 7:=AY Od Oo;have e7:(2:Nat) ^ 7=128:=by decide
     show 1*2 ^ (i%8)<256;omega
    (conv=>whnf);exact PostO.still xr rfl
   (conv=>whnf);apply StepO.still
   ·intro ah hd;(conv=>whnf);refine Wit.eq (qadf (f:=boF S) i 1) (zw ?_);exact PostO.still xr rfl
   (conv=>whnf);apply StepO.still
   ·intro ah hd;(conv=>whnf);refine ElemV.own1 (i/8) rfl Oo (zw ?_);exact PostO.still xr rfl
   (conv=>whnf);intro w8 aj
   (repeat(intro _;(conv=>whnf)))
   (conv=>whnf);refine StoreV.mem (U.drew.call aj) (i:=0) rfl (by rw[Ct];omega) rfl ?_;intro w9 U;have U:Mem w w9 [(ob,.cells (boC S (i+1)).toArray 5)]:=by
    rw[boC,<-ag];have e:((boC S i).toArray.setIfInBounds (i/8) (.int .u8 (byt (upF (boF S) i) (i/8)+1%2*2 ^ (i%8):Nat)))=((boC S i).set (i/8) (.int .u8 (byt (upF (boF S) i) (i/8)+1%2*2 ^ (i%8):Nat))).toArray:=by simp
    rw[boC]at e;rw[<-e];exact U
   refine zu ?_;exact⟨i+1,fq,⟨by omega,U⟩,by omega⟩
 ·obtain rfl:i=n:=by omega
  obtain⟨o1,o2⟩:=U.own _ mh;have ad:=qaec S;rw[hn]at ad;refine NewS.blk U.ext o1 ?_ (by rw[qdm]);rw[<-ad];exact o2
def laM(S:List Bool):List Bool:=(List.range S.length).map λt=>S.getD (t+1) false
def laN(S:List Bool):List Bool:=(List.range S.length).map λt=>decide (t+1=S.length)||S.getD (t+1) false
theorem qfq(S:List Bool):(laM S).length=S.length:=by simp[laM]
theorem qjh(S:List Bool):(laN S).length=S.length:=by simp[laN]
theorem qx7{t:Nat}(h:t<S.length):(laM S)[t]?=some (S.getD (t+1) false):=by grind [laM]
theorem qac8{t:Nat}(h:t<S.length):(laN S)[t]?=some (decide (t+1=S.length)||S.getD (t+1) false):=by grind [laN]
theorem q90(S:List Bool)(b:Bool):laM (S++[b])=(laM S).set (S.length-1) b++[false]:=by
 refine Bk λt=>?_
 by_cases h:t<S.length
 ·grind [qx7,qfq]
 grind [qx7,qfq]
theorem q9z(S:List Bool):(laM S).set (S.length-1) false=laM S:=by
 refine Bk λt=>?_
 grind [qfq,qx7]
theorem qafm(S:List Bool):(laM S).set (S.length-1) true=laN S:=by
 refine Bk λt=>?_
 grind [qfq,qac8,qx7,decide_eq_false,qjh]
theorem qafl(S:List Bool)(t:Nat):(if(laN S).getD t false=true then 1 else 0)=laT S t:=by
 grind [laT,qac8,qjh]
def smQ(Q:Nat->Nat->Nat)(i k:Nat):Bool:=if k=0 then decide (0<i)else !(frU Q i (k-1))
theorem qq6(Q:Nat->Nat->Nat)(i k:Nat):smQ Q i (k+1)=!(frU Q i k):=by simp[smQ]
theorem qai0(Q:Nat->Nat->Nat)(i k:Nat):frU Q i k=!(smQ Q i k&&decide (Q i k=Q (i-1) k)):=by
 cases k<;>grind [frU,smQ]
theorem qahn(h:smQ Q i k=true):0<i:=by
 rw[smQ]at h
 split at h
 ·simp_all
 ·exact(qgk (by simpa using h)).1
end Go.Proofs.YtccmcfpmknpccaaGreatDoor
