/- Lemmas and contracts of functions on the way to the law's card (part 10 of 20). -/
import Derived.Test.YtccmcfpmknpccaaGreatDoorSA9
namespace Go.Proofs.YtccmcfpmknpccaaGreatDoor
set_option maxHeartbeats 8000000
open Go.RowKit V
set_option maxHeartbeats 8000000
set_option maxRecDepth 100000
variable {w w' w0:DU} {A:oA} {b cc i id k m nb off:Nat} {L M:Ed} {e ty:DX} {K:Ea} {l s:LB} {u:DZ} {vs xs:Ee} {P:DW} {cs cur:Eh} {fz:Nat×Nat}
theorem qlv(a b:LB):escL (a++b)=escL a++escL b:=by
 induction a with
 | nil=>rfl
 | cons c r H=>
  by_cases h:c=0
  ·subst h;rw[Bi,qaw,qaw,H];rfl
  ·rw[Bi,qae _ h,qae _ h,H];rfl
theorem AppV.byt{x:LB}{c:DY}(h:Rw w0 w (.slice A x.length cc) 5 1 x.length (byV x) ((nb,.cells #[.int .u8 c.toNat] 5)::L))(V:x.length+1<=8000000000000)(W:∀H U w',Rw w0 w' (.slice H (x++[c]).length U) 5 1 (x++[c]).length (byV (x++[c])) L->K (.slice H (x++[c]).length U) w'):AppV Eg #[32,32] ty (.slice A x.length cc) (.slice (some ⟨nb,0,none⟩) 1 1) w K:=by
 have Z:(x++[c]).length=x.length+1:=by simp
 have ev:byV (x++[c])=byV x++[.int .u8 c.toNat]:=by simp[byV]
 refine AppV.one qdo bytI bytZ Jk rfl (by decide +kernel) h rfl V λH U w' hR=>?_;have:=W H U w';rw[Z,ev]at this;exact this hR
theorem AppV.byt2{x:LB}(h:Rw w0 w (.slice A x.length cc) 5 1 x.length (byV x) ((nb,.cells #[.int .u8 0,.int .u8 0] 5)::L))(hn:x.length+2<=8000000000000)(Z:∀H U w',Rw w0 w' (.slice H (x++[0,0]).length U) 5 1 (x++[0,0]).length (byV (x++[0,0])) L->K (.slice H (x++[0,0]).length U) w'):AppV Eg #[32,32] ty (.slice A x.length cc) (.slice (some ⟨nb,0,none⟩) 2 2) w K:=by
 refine AppV.rwB (m:=[0,0]) qdo bytI bytZ Jk rfl (by decide +kernel) h ⟨λ_=>⟨nb,0,rfl,λj y V k u W=>?_⟩⟩ Ys (λH U w' hR=>Z H U w' hR.tail);cases k with
 | succ k=>simp[encB]at W
 | zero=>
  simp only[encB,AT,AR]at W;subst W;rw[qa (h.mem.get mh)]
  match j with
  | 0=>cases V;rfl
  | 1=>cases V;rfl
  | j+2=>simp at V
theorem AppV.str{x:LB}{s:DV}(h:Rw w0 w (.slice A x.length cc) 5 1 x.length (byV x) L)(W:qny 5 L)(hn:x.length+s.size<=8000000000000)(Z:∀H U w',Rw w0 w' (.slice H (x++s.data.toList).length U) 5 1 (x++s.data.toList).length (byV (x++s.data.toList)) L->K (.slice H (x++s.data.toList).length U) w'):AppV Eg #[32,9] ty (.slice A x.length cc) (.string s) w K:=by
 have el:(x++s.data.toList).length=x.length+s.size:=by rw[zla];rfl
 have ev:byV (x++s.data.toList)=byV x++byteCells s.data.toList:=by simp[byV,byteCells]
 refine AppV.rwS qdo Tryz.underlying9 bytI bytZ Jk Jk h W Oo λv' w' V=>?_;obtain⟨H,U,rfl⟩:=V.slice;have:=Z H U w';rw[el,ev]at this;exact this V
theorem qz4{p q:LB}(H:s=p++([0]++q))(U:∀c∈p,c≠0)(hi:s[i]?=some 0)(V:∀j,j<i->s[j]?≠some 0):s.take i=p/\s.drop (i+1)=q:=by
 have W:s[p.length]?=some 0:=by rw[H,Be znr,BU];rfl
 have Z:i=p.length:=by
  rcases CG i p.length with h|h|h
  ·rw[H,Ba h,zge h]at hi;exact absurd (Bb hi) (U _ (AH h))
  ·exact h
  ·exact absurd W (V _ h)
 subst Z;refine⟨by rw[H,Dc],?_⟩;rw[<-Ar,H,DJ];rfl
theorem q2p(s:DV)(w:DU)(hs:s.size<=4194304):
  Gv Eg 244 [.string s] w λr w'=>(∃(a b:DV) (z:Bool),r=.tuple #[.string a,.string b,.bool z]/\a.size<=s.size/\b.size<=s.size/\∀p q,s.data.toList=p++([0]++q)->(∀c∈p,c≠0)->a.data.toList=p/\b.data.toList=q)/\Ext w w':=by
 refine ze Tryz.func244 Tryz.ntmps244 ?_;refine qk (λi:Nat=>[(0,.string s),(5,ii i)]) (λi w'=>i<=s.size/\(∀j,j<i->s.data.toList[j]?≠some 0)/\w'=w) (λi=>s.size-i) 0 fq ⟨Ag _,λj h=>by omega,rfl⟩ ?_;rintro i w1 Z ⟨i1,U,rfl⟩;conv=>whnf
 (repeat'(first|refine zp ?_|refine zC (λ_=>zw ?_) (λ_=>zw ?_)))
 ·have hz:s.data.toList[i]?=some 0:=by
   rw[qec Oo];exact Ae some (Cc.1 (by show(gb s i).toNat=0;omega))
  refine zy ?_;refine zv ?_;refine SliceS.at_ 0 i rfl rfl Oo Oo (zu ?_);refine SliceS.at_ (i+1) s.size (by show(_:Int)=_;omega) rfl Oo Oo (zu ?_);refine⟨⟨_,_,true,rfl,by rw[BM];omega,by rw[BM];omega,λp q H V=>?_⟩,xr.drew⟩;obtain⟨g1,g2⟩:=qz4 H V hz U;refine⟨?_,?_⟩
  ·rw[<-g1];simp
  ·rw[<-g2];simp[Am]
 ·refine⟨i+1,fq,⟨by omega,λj hj=>?_,rfl⟩,by omega⟩
  by_cases e:j=i
  ·subst e;rw[qec Oo];intro h;have:=Ae UInt8.toNat (Bb h);have h0:(0:DY).toNat=0:=rfl;omega
  ·exact U j Oo
 ·refine⟨⟨⟨#[]⟩,⟨#[]⟩,false,rfl,Ag _,Ag _,λp q H V=>?_⟩,xr⟩;have W:p.length<s.size:=by
   have:=Ae List.length H;simp only[zla,AC]at this;have e:s.data.toList.length=s.size:=rfl;omega
  refine absurd ?_ (U p.length Oo);rw[H,Be znr,BU];rfl
theorem q4x{t:TM}(H:qap t=0)(U:t.kind=3):t.text.size<=65536/\t.type.size<=65536/\t.lang.size<=65536:=by
 rw[qap,Aa Oo,Ad U,litE]at H
 by_cases h:65536<t.text.size
 ·rw[Ad h]at H;cases H
 rw[Aa h]at H
 by_cases h1:scal t.text.data.toList=none
 ·rw[Ad h1]at H;cases H
 rw[Aa h1]at H
 by_cases V:iriE t.type≠0
 ·rw[Ad V]at H;exact absurd H V
 rw[Aa V]at H;refine⟨by omega,?_,?_⟩
 ·have W:iriE t.type=0:=by omega
  unfold iriE at W
  by_cases h0:refE t.type≠0
  ·rw[Ad h0]at W;exact absurd W h0
  ·have Z:refE t.type=0:=by omega
   unfold refE at Z
   by_cases h5:65536<t.type.size
   ·rw[Ad h5]at Z;cases Z
   ·omega
 ·by_cases h6:65536<t.lang.size
  ·have h7:seq t.lang ⟨#[]⟩=false:=by
    cases h8:seq t.lang ⟨#[]⟩
    ·rfl
    ·rw[qaf.1 h8]at h6;exact absurd h6 Od
   rw[Ad ⟨h7,h6⟩]at H;cases H
  ·omega
theorem qlu(t:TM)(ht:TermOk t)(w:DU):Gv Eg 79 [qv t] w λr w'=>r=(if qap t=0 then .tuple #[.string ⟨(qal t).toArray⟩,ii 0]else .tuple #[.string ⟨#[]⟩,ii (qap t)])/\Ext w w':=by
 refine ze Tryz.func79 Tryz.ntmps79 ?_;refine znm (Mem.nil w) ?_;intro tb w1 U;have U:Mem w w1 [(tb,.cells #[ii t.kind,.string t.text,.string t.type,.string t.lang] 45)]:=U;(conv=>whnf);refine zl U 0 ?_;refine zcv (qbp t ht w1) ?_;rintro r w2 ⟨rfl,ae⟩;have U:=U.call ae;obtain⟨e,ee⟩:∃e,e=qap t:=⟨_,rfl⟩
 rw[<-ee];conv=>whnf
 (repeat'(first|refine zC (λ_=>zw ?_) (λ_=>zw ?_)|refine LoadV.mem (i:=0) Oa rfl rfl (zw ?_)))
 ·rw[Aa Oo];exact⟨rfl,U.ext⟩
 rw[Ad Oo]
 ·have h1:qal t=t.text.data.toList:=by rw[qal,Aa Oa]
  rw[h1];exact⟨rfl,U.ext⟩
 have Z:t.kind=3:=by omega
 have ag:t.text.data.toList.length=t.text.size:=rfl;obtain⟨ah,ai,aj⟩:=q4x (show qap t=0 by omega) Z;refine qk (λx:Nat×LB×oA×Nat=>[(1,pp tb),(5,.slice x.2.2.1 x.2.1.length x.2.2.2),(6,ii x.1)])
  (λx w'=>x.1<=t.text.size/\x.2.1=escL (t.text.data.toList.take x.1)/\Rw w w' (.slice x.2.2.1 x.2.1.length x.2.2.2) 5 1 x.2.1.length (byV x.2.1) [(tb,.cells #[ii t.kind,.string t.text,.string t.type,.string t.lang] 45)]) (λx=>t.text.size-x.1) (0,[],none,0)
  fq ⟨Ag _,rfl,Rw.nil U⟩ ?_
 clear U;rintro⟨i,x,A,c⟩ w3 ak ⟨i1,W,H⟩;dsimp only at i1 W H|-;have af:=qxx (t.text.data.toList.take i);rw[<-W,Az]at af;have U:=H.mem;conv=>whnf
 (repeat'(first|refine zp ?_|refine zC (λ_=>zw ?_) (λ_=>zw ?_)|refine LoadV.mem (i:=0) Oa rfl rfl (zw ?_)))
 ·have aa:t.text.data.toList.take (i+1)=t.text.data.toList.take i++[gb t.text i]:=by
   rw[BD,zge Oo,gb,Ah,zge Oo];rfl
  refine NewV.rw H λnb w4 H=>zw ?_;refine AppV.byt (c:=gb t.text i) H Oo ?_;clear H;intro B d w5 H;have U:=H.mem;(conv=>whnf);refine LoadV.mem (i:=0) Oa rfl rfl (zw ?_);refine zt ?_;refine zC (λ_=>zu ?_) (λ_=>zu ?_)
  ·refine NewV.rw H λnb w6 H=>zw ?_;refine AppV.byt (c:=1) H (by rw[zla];simp;omega) ?_;clear H;intro B2 d2 w7 H;refine zu ?_;refine⟨(i+1,x++[gb t.text i]++[1],B2,d2),fq,⟨by simp only;omega,?_,H⟩,by simp only;omega⟩;have h0:gb t.text i=0:=UInt8.toNat.inj (by rw[show(0:DY).toNat=0 from rfl];omega);simp only;rw[aa,qlv,W,h0,qaw];simp[escL]
  ·refine⟨(i+1,x++[gb t.text i],B,d),fq,⟨by simp only;omega,?_,H⟩,by simp only;omega⟩;have h0:gb t.text i≠0:=λh=>by
    have:(gb t.text i).toNat=0:=by rw[h];rfl
    omega
   simp only;rw[aa,qlv,W,qae _ h0];simp[escL]
 obtain rfl:i=t.text.size:=by omega
 rw[Am Oo]at W;have hN:qny 5 [(tb,Obj.cells #[ii t.kind,.string t.text,.string t.type,.string t.lang] 45)]:=by
  intro y hy c fz h;simp at hy;subst hy;simp at h
 refine NewV.rw H λnb w4 H=>zw ?_;refine AppV.byt2 H Oo ?_;clear H;intro B d w5 H;have U:=H.mem;(conv=>whnf);refine LoadV.mem (i:=0) Oa rfl rfl (zw ?_);refine AppV.str H hN (by rw[zla];simp;omega) ?_;clear H;intro B d w6 H;(conv=>whnf);refine NewV.rw H λnb w7 H=>zw ?_;refine AppV.byt (c:=0) H (by rw[zla,zla,show t.type.data.toList.length=t.type.size from rfl];simp;omega) ?_;clear H;intro B d w8 H;have U:=H.mem;(conv=>whnf);refine LoadV.mem (i:=0) Oa rfl rfl (zw ?_);refine AppV.str H hN (by simp only[zla];rw[show t.type.data.toList.length=t.type.size from rfl];simp;omega) ?_;clear H;intro B d w9 H;(conv=>whnf);have hB:SlAt encB 1 w9 B (x++[0,0]++t.type.data.toList++[0]++t.lang.data.toList):=V.Rw.slAt (f:=λc:DY=>Value.int .u8 c.toNat) (λ_=>rfl) H rfl;refine BytesS.sl hB rfl (zw ?_);have ad:qal t=x++[0,0]++t.type.data.toList++[0]++t.lang.data.toList:=by
  rw[qal,Ad Z,W];simp
 rw[ad,Ad Oo];exact⟨rfl,H.mem.ext⟩
def RdR(H:Int)(s:DV)(r:DZ):Prop:=∃t,ReadsAs H s.data.toList t/\TermOk t/\r=.tuple #[qv t,ii 0]
theorem q52(U:Int)(hk:U=1\/U=2\/U=3)(s:DV)(hs:s.size<=262144)(w:DU)(t':TM)(h:ReadsAs U s.data.toList t'):Gv Eg 173 [ii U,.string s] w λr w'=>RdR U s r/\Ext w w':=by
 rcases hk with rfl|rfl|rfl
 all_goals
  refine ze Tryz.func173 Tryz.ntmps173 ?_;refine znm (Mem.nil w) ?_;intro r4 w1 H;refine znm H ?_;intro tb w2 H;refine zS H 0 ?_;intro w3 H
 case' inr.inr=>
  have H:Mem w w3 [(tb,.cells #[ii 3,.string s,.string ⟨#[]⟩,.string ⟨#[]⟩] 45),(r4,.cells #[ii 0,.string ⟨#[]⟩,.string ⟨#[]⟩,.string ⟨#[]⟩] 45)]:=H;refine zu ?_;refine qk (λx:Nat×LB×oA×Nat=>[(0,ii 3),(1,.string s),(4,pp r4),(6,pp tb),(7,.slice x.2.2.1 x.2.1.length x.2.2.2),(8,ii x.1)])
   (λx w'=>x.1<=s.size/\x.2.1.length<=x.1/\ScanI s.data.toList x.1 x.2.1/\Rw w w' (.slice x.2.2.1 x.2.1.length x.2.2.2) 5 1 x.2.1.length (byV x.2.1) [(tb,.cells #[ii 3,.string s,.string ⟨#[]⟩,.string ⟨#[]⟩] 45),(r4,.cells #[ii 0,.string ⟨#[]⟩,.string ⟨#[]⟩,.string ⟨#[]⟩] 45)]) (λx=>s.size-x.1) (0,[],none,0)
   fq ⟨Ag _,Ai _,.start _,Rw.nil H⟩ ?_
  clear H;rintro⟨i,x,A,c⟩ w4 ah ⟨i1,hx,aa,W⟩;dsimp only at i1 hx aa W|-;have lS:s.data.toList.length=s.size:=rfl;have ai:(0:DY).toNat=0:=rfl;have H:=W.mem;conv=>whnf
  (repeat'(first|refine zp ?_|refine zC (λ_=>zw ?_) (λ_=>zw ?_)))
  rotate_left 2
  ·have:=aa.end_ h.lit.1;omega
  ·refine NewV.rw W ?_;intro nb w5 W;refine AppV.byt (c:=gb s i) W Oo ?_;clear W;intro B d w6 W;refine zu ?_;exact⟨(i+1,x++[gb s i],B,d),fq,⟨by omega,by simp_all,aa.one (qec Oo) (λh=>by simp_all),W⟩,by omega⟩
  refine IdxV.at_ (i+1) Oo Oo (zw ?_);refine zt ?_;refine zC (λ_=>zu ?_) (λ_=>zu ?_)
  ·refine NewV.rw W ?_;intro nb w5 W;refine AppV.byt (c:=gb s i) W Oo ?_;clear W;intro B d w6 W;refine zu ?_;have hz:gb s i=0:=Cc.1 Oo;exact⟨(i+2,x++[gb s i],B,d),fq,⟨by omega,by grind,by rw[hz];exact aa.two (by grind [qec]) (qec Oo) (by grind),W⟩,by omega⟩
  refine SliceS.at_ (i+2) s.size (by rfl) rfl Oo Oo ?_;have aj:(s.extract (i+2) s.size).size<=s.size:=by simp
  refine zcv (q2p (s.extract (i+2) s.size) w4 Oo) ?_;rintro r w5 ⟨⟨a,b,z,rfl,ha,hb,ae⟩,af⟩;have W:=W.call af;(conv=>whnf);have hB:SlAt encB 1 w5 A x:=V.Rw.slAt (f:=λc:DY=>Value.int .u8 c.toNat) (λ_=>rfl) W rfl;refine BytesS.sl hB rfl (zw ?_);obtain⟨t,Z⟩:∃t:TM,t=⟨3,⟨x.toArray⟩,a,b⟩:=⟨_,rfl⟩
  have ad:t'=t:=by
   obtain⟨h1,h2⟩:=h.lit;obtain⟨h3,h4⟩:=aa.stop h1 (by rw[qec Oo];exact Ae some (Cc.1 Oo)) (by rw[qec Oo];exact Ae some (Cc.1 Oo));have h5:(s.extract (i+2) s.size).data.toList=s.data.toList.drop (i+2):=by simp[Am]
   obtain⟨h6,h7⟩:=ae _ _ (h5.trans h4) h2;obtain⟨tk,tt,ty,tl⟩:=t';have h8:=h.kind;dsimp only at h3 h6 h7 h8;rw[Z,h8,qdj h6,qdj h7,<-h3]
  have ak:(⟨x.toArray⟩:DV).size=x.length:=by rfl
  have ht:TermOk t:=by rw[Z];exact⟨(by grind [InR]),by grind,by grind,by grind⟩
  refine zS W.mem 0 ?_;intro w6 H;have H:Mem w w6 [(tb,.cells #[ii t.kind,.string t.text,.string t.type,.string t.lang] 45),(r4,.cells #[ii 0,.string ⟨#[]⟩,.string ⟨#[]⟩,.string ⟨#[]⟩] 45)]:=by rw[Z];exact H
  clear Z W;conv=>whnf
 case' inl=>
  obtain⟨t,Z⟩:∃t:TM,t=⟨1,s,⟨#[]⟩,⟨#[]⟩⟩:=⟨_,rfl⟩
  have ad:t'=t:=by
   obtain⟨h1,h2,h3⟩:=h.plain Od;obtain⟨tk,tt,ty,tl⟩:=t';have h4:=h.kind
   grind [qdj]
  have ht:TermOk t:=by rw[Z];exact⟨(by grind [InR]),by grind,Ag _,Ag _⟩
  have H:Mem w w3 [(tb,.cells #[ii t.kind,.string t.text,.string t.type,.string t.lang] 45),(r4,.cells #[ii 0,.string ⟨#[]⟩,.string ⟨#[]⟩,.string ⟨#[]⟩] 45)]:=by rw[Z];exact H
  clear Z;refine zv ?_
 case' inr.inl=>
  obtain⟨t,Z⟩:∃t:TM,t=⟨2,s,⟨#[]⟩,⟨#[]⟩⟩:=⟨_,rfl⟩
  have ad:t'=t:=by
   obtain⟨h1,h2,h3⟩:=h.plain Od;obtain⟨tk,tt,ty,tl⟩:=t';have h4:=h.kind
   grind [qdj]
  have ht:TermOk t:=by rw[Z];exact⟨(by grind [InR]),by grind,Ag _,Ag _⟩
  have H:Mem w w3 [(tb,.cells #[ii t.kind,.string t.text,.string t.type,.string t.lang] 45),(r4,.cells #[ii 0,.string ⟨#[]⟩,.string ⟨#[]⟩,.string ⟨#[]⟩] 45)]:=by rw[Z];exact H
  clear Z;refine zv ?_
 all_goals
  subst ad;refine zl H 0 ?_;refine zcv (qlu t' ht _) ?_;rintro r wt ⟨rfl,ag⟩;have H:=H.call ag;rw[Ad h.ok];refine zu ?_;rw[show seq ⟨(qal t').toArray⟩ s=true from qaf.2 (by rw[h.entry])];refine zu ?_;refine zl H 0 ?_;refine zS H 1 λwa H=>zw ?_;refine qi (R:=λr w'=>RdR _ s r/\Ext w w') (zw ?_);refine zl H 1 ?_;exact⟨⟨t',h,ht,rfl⟩,H.ext⟩
theorem ql4(w:DU):Gv Eg 78 [] w λr w'=>r=.agg #[ii 1,ii 2,ii 3]/\Ext w w':=by
 refine ze Tryz.func78 Tryz.ntmps78 ?_;refine znm (Mem.nil w) λU V H=>zw ?_;refine zS H 0 λW H=>zw ?_;refine qi (R:=λr w'=>r=.agg #[ii 1,ii 2,ii 3]/\Ext w w') (zw ?_);refine zl H 0 ?_;exact⟨rfl,H.ext⟩
theorem q6c(h:(sE l).2=0):(∀k,k<3->(vsF l k).2=0)/\qr l 3=l.length:=by
 have H:(errF (vsF l) 3).2=0:=by grind [sE]
 exact⟨qan H,by grind [sE]⟩
theorem q1f(l:LB)(A:oA)(c:Nat)(w:DU)(hS:SlAt encB 1 w A l)(hc:l.length<=c)(hl:l.length<=70368744177664)(hE:(sE l).2=0):
  Gv Eg 104 [.slice A l.length c] w λr w'=>(∃G:Nat->Int,(∀k,k<=3->G k=((qr l k:Nat):Int))/\r=.tuple #[.agg (fnA 4 (inF G)),fltV 0 0])/\Ext w w':=by
 obtain⟨hz,al⟩:=q6c hE;have aa:∀j,j<3->vNum l j<=67108864:=λj hj=>qf2 (hz j hj)
 refine ze Tryz.func104 Tryz.ntmps104 ?_;refine znm (Mem.nil w) λr2 w1 H=>zw ?_;refine znm H λU w2 H=>zw ?_;refine znm H λV w3 H=>zw ?_;refine znm H λW w4 H=>zw ?_;refine znm H ?_;intro Z w5 H;have H:Mem w w5 [(Z,.cells (fnA 3 (inF (λ_:Nat=>(0:Int)))) 113),(W,curO 309 (.slice A l.length c) (vAt l 0) 0),(V,.cells (fnA 4 (inF (λ_:Nat=>(0:Int)))) 94),(U,.cells #[ii 0,ii 0] 55),(r2,.cells (fnA 4 (inF (λ_=>0))) 94)]:=H;(conv=>whnf);refine qk (λx:Nat×(Nat->Int)=>[(0,.slice A l.length c),(2,pp r2),(3,pp U),(4,pp V),(5,pp W),(6,pp Z),(7,ii x.1)])
  (λx w'=>x.1<=3/\(∀j,j<x.1->x.2 j=((vNum l j:Nat):Int))/\Mem w w' [(Z,.cells (fnA 3 (inF (x.2))) 113),(W,curO 309 (.slice A l.length c) (vAt l x.1) 0),(V,.cells (fnA 4 (inF (λ_:Nat=>(0:Int)))) 94),(U,.cells #[ii 0,ii 0] 55),(r2,.cells (fnA 4 (inF (λ_=>0))) 94)]) (λx=>3-x.1) (0,λ_:Nat=>(0:Int))
  fq (by grind) ?_
 clear H;rintro⟨k,Q⟩ w6 am ⟨k1,hQ,H⟩;dsimp only at k1 hQ H|-;have ai:=qg9 l k;have an:=qhs l k;(conv=>whnf);refine zC (λ_=>zw ?_) (λ_=>zw ?_)
 ·refine zr H 1 ?_;refine zcv (qqz W _ (vAt l k) 0 l w6 (H.get Js) ⟨A,c,rfl,hc,hS.ext H.ext⟩ ai Oo) ?_;rintro r w7 ⟨rfl,hu⟩;have he:=qqk (hz k Oo);have ad:=aa k Oo;rw[qlc he,qld he]at hu;rw[qlb he];have H:Mem w w7 [(Z,.cells (fnA 3 (inF (Q))) 113),(W,curO 309 (.slice A l.length c) (vAt l (k+1)) 0),(V,.cells (fnA 4 (inF (λ_:Nat=>(0:Int)))) 94),(U,.cells #[ii 0,ii 0] 55),(r2,.cells (fnA 4 (inF (λ_=>0))) 94)]:=H.upd (i:=1) rfl hu;(conv=>whnf);refine zr H 1 ?_;refine zv ?_;refine StoreV.fi (x:=((vNum l k:Nat):Int)) H (i:=0) rfl k (by rw[show tsz Eg 3=1 from by kernel_rfl];omega) Oo ?_;intro w8 H;have H:Mem w w8 [(Z,.cells (fnA 3 (inF (updI Q k (vNum l k:Nat)))) 113),(W,curO 309 (.slice A l.length c) (vAt l (k+1)) 0),(V,.cells (fnA 4 (inF (λ_:Nat=>(0:Int)))) 94),(U,.cells #[ii 0,ii 0] 55),(r2,.cells (fnA 4 (inF (λ_=>0))) 94)]:=H;refine zu ?_;refine⟨(k+1,updI Q k (vNum l k:Nat)),fq,⟨by omega,λj hj=>by grind [qd2,qa4],H⟩,by omega⟩
 obtain rfl:k=3:=by omega
 refine zr H 1 ?_;refine zJ 0 ?_;(conv=>whnf);refine StoreV.fi (x:=((vAt l 3:Nat):Int)) H (i:=2) rfl 0 (by rw[show tsz Eg 3=1 from by kernel_rfl]) Oo ?_;intro w7 H;have H:Mem w w7 [(Z,.cells (fnA 3 (inF (Q))) 113),(W,curO 309 (.slice A l.length c) (vAt l 3) 0),(V,.cells (fnA 4 (inF (updI (λ_=>0) 0 (vAt l 3:Nat)))) 94),(U,.cells #[ii 0,ii 0] 55),(r2,.cells (fnA 4 (inF (λ_=>0))) 94)]:=H;(conv=>whnf);refine qk (λx:Nat×(Nat->Int)=>[(0,.slice A l.length c),(2,pp r2),(3,pp U),(4,pp V),(6,pp Z),(10,ii x.1)])
  (λx w'=>x.1<=3/\(∀j,j<=x.1->x.2 j=((qr l j:Nat):Int))/\qr l x.1<=l.length+67108864*x.1/\Mem w w' [(Z,.cells (fnA 3 (inF (Q))) 113),(W,curO 309 (.slice A l.length c) (vAt l 3) 0),(V,.cells (fnA 4 (inF (x.2))) 94),(U,.cells #[ii 0,ii 0] 55),(r2,.cells (fnA 4 (inF (λ_=>0))) 94)]) (λx=>3-x.1) (0,updI (λ_=>0) 0 (vAt l 3:Nat))
  fq (by grind [qd2,qr]) ?_
 clear H;rintro⟨k,P⟩ w8 ao ⟨k2,hP,ae,H⟩;dsimp only at k2 hP ae H|-;conv=>whnf
 (repeat'(first|refine zC (λ_=>zw ?_) (λ_=>zw ?_)|(refine zJ 3 ?_;(conv=>whnf))))
 ·have af:=hP k znr;have ag:=hQ k Oo;have ad:=aa k Oo;have ah:qr l (k+1)=qr l k+vNum l k:=rfl;obtain⟨y,ey⟩:∃y,y=qr l k:=⟨_,rfl⟩
  obtain⟨z,ez⟩:∃z,z=vNum l k:=⟨_,rfl⟩
  rw[<-ey]at af ae ah;rw[<-ez]at ag ad ah;refine DrawV.own rfl Jk (zw ?_);(iterate 3 (refine zo ?_));apply StepO.still
  ·intro wd hd;(conv=>whnf);refine IdxV.at_ (k) Oo Oo (zw ?_);exact PostO.still xr rfl
  (conv=>whnf);apply StepO.still
  ·intro wd hd;(conv=>whnf);refine LoadV.fi (x:=((y:Nat):Int)) (Mem.call (Mem.drew H) hd) (i:=2) rfl (k) (by rw[show tsz Eg 3=1 from by kernel_rfl];omega) Oo af (zw ?_);exact PostO.still xr rfl
  (conv=>whnf);refine zo ?_;apply StepO.still
  ·intro wd hd;(conv=>whnf);refine IdxV.at_ (k) Oo Oo (zw ?_);exact PostO.still xr rfl
  (conv=>whnf);apply StepO.still
  ·intro wd hd;(conv=>whnf);refine LoadV.fi (x:=((z:Nat):Int)) (Mem.call (Mem.drew H) hd) (i:=0) rfl (k) (by rw[show tsz Eg 3=1 from by kernel_rfl];omega) Oo ag (zw ?_);exact PostO.still xr rfl
  (conv=>whnf);refine zo ?_;apply StepO.still
  ·intro wd hd;(conv=>whnf);refine IdxV.at_ (k+1) Oo Oo (zw ?_);exact PostO.still xr rfl
  (conv=>whnf);intro w9 aj
  (repeat(intro _;(conv=>whnf)))
  (conv=>whnf);refine StoreV.fi (x:=((y:Nat):Int)+((z:Nat):Int)) (H.drew.call aj) (i:=2) rfl (k+1) (by rw[show tsz Eg 3=1 from by kernel_rfl];omega) Oo ?_;clear H;intro ak H;have H:Mem w ak [(Z,.cells (fnA 3 (inF (Q))) 113),(W,curO 309 (.slice A l.length c) (vAt l 3) 0),(V,.cells (fnA 4 (inF (updI P (k+1) (((y:Nat):Int)+((z:Nat):Int))))) 94),(U,.cells #[ii 0,ii 0] 55),(r2,.cells (fnA 4 (inF (λ_=>0))) 94)]:=H;refine zu ?_;refine⟨(k+1,updI P (k+1) (((y:Nat):Int)+((z:Nat):Int))),fq,⟨by omega,λj hj=>?_,by grind,H⟩,by omega⟩
  grind [qd2,qa4]
 obtain rfl:k=3:=by omega
 refine LoadV.fi (x:=((qr l 3:Nat):Int)) H (i:=2) rfl 3 (by rw[show tsz Eg 3=1 from by kernel_rfl]) Oo (hP 3 Oo) (zw ?_);refine zt ?_;refine zJ 3 ?_;(conv=>whnf);refine LoadV.fi (x:=((qr l 3:Nat):Int)) H (i:=2) rfl 3 (by rw[show tsz Eg 3=1 from by kernel_rfl]) Oo (hP 3 Oo) (zu ?_);refine LoadA.mem H (i:=2) rfl (by simp[qaq];rfl) (zw ?_);refine StoreA.all H (i:=4) rfl (by rfl) (qlz 4 P) λwa H=>zw ?_;refine zS H 3 ?_;intro wb H;have H:Mem w wb [(Z,.cells (fnA 3 (inF (Q))) 113),(W,curO 309 (.slice A l.length c) (vAt l 3) 0),(V,.cells (fnA 4 (inF (P))) 94),(U,.cells #[ii 0,ii 0] 55),(r2,.cells (fnA 4 (inF (P))) 94)]:=H;(conv=>whnf);refine qi (R:=λr w'=>(∃G:Nat->Int,(∀k,k<=3->G k=((qr l k:Nat):Int))/\r=.tuple #[.agg (fnA 4 (inF G)),fltV 0 0])/\Ext w w') (zw ?_);refine LoadA.mem H (i:=4) rfl (by simp[qaq];rfl) (zw ?_);refine zl H 3 ?_;exact⟨⟨P,Oo,rfl⟩,H.ext⟩
theorem qyj{V:Ed}(h:Mem w0 w L)(U:Mem w w' V):Mem w0 w' (L++V):=by
 have W:=h.call U.ext;refine⟨W.ext,λx H=>?_,?_⟩
 ·rcases Bc.1 H with H|H
  ·exact W.own x H
  ·exact⟨AI h.ext.size (U.own x H).1,(U.own x H).2⟩
 ·rw[AJ,Do];refine⟨h.nodup,U.nodup,λa Z b hb aa=>?_⟩;obtain⟨x,H,rfl⟩:=AF.1 Z;obtain⟨y,hy,rfl⟩:=AF.1 hb;have h1:=(U.own y hy).1;have h2:=h.lt (b:=x.1) (o:=x.2) H;omega
def LevV(l:LB)(m:Nat)(u v:DZ)(R:Ed):Prop:=
 (0<m->LvlV l m)/\∃A H B nb U bs,u=.slice A (vNum l m) H/\v=.slice B nb U/\RowB 164 (unpV (qg l m) (vNum l m) (tw l m)) R u/\RowB 4 (bs.map Value.bool) R v/\(0<m->nb=vNum l m/\bs=bitL (qe l m) (vNum l m))
theorem LevV.keep{v:DZ}{R U:Ed}(h:LevV l m u v R)(V:∀x∈R,x∈U):LevV l m u v U:=by
 obtain⟨W,A,Z,B,nb,cb,bs,h2,h3,h4,h5,h6⟩:=h;exact⟨W,A,Z,B,nb,cb,bs,h2,h3,h4.keep λy H _=>V y H,h5.keep λy H _=>V y H,h6⟩
theorem qae8(n:Nat)(G:Eb)(i:Nat)(u v:DZ)(h:i+2<=n):((fnA n G).toList.take i++[u,v]++(fnA n G).toList.drop (i+2)).toArray=fnA n (updF (updF G i u) (i+1) v):=by
 rw[<-BA];simp only[fnA];apply Bk;intro j;rw[Aw,Cp,Ao];simp only[Az,AG,Dq,BG (show i<=n by omega)]
 by_cases H:j<i
 ·rw[Ad H,BE,Ad H,Ao,Bu Oo];simp[updF,show j≠i by omega,show j≠i+1 by omega]
 ·rw[Aa H]
  by_cases U:j=i
  ·subst U;rw[BU,Bu Oo];simp[updF]
  ·by_cases V:j=i+1
   ·subst V;rw[BJ,Bu Oo];simp[updF]
   ·obtain⟨d,rfl⟩:∃d,j=i+2+d:=⟨j-(i+2),by omega⟩
    rw[show i+2+d-i=d+1+1 by omega];simp only[Bi,Bn,BR,Cn,Ao]
    by_cases W:i+2+d<n
    ·rw[Bu W];simp[updF,show i+2+d≠i by omega,show i+2+d≠i+1 by omega]
    ·rw[Bh Ys];rfl
theorem qahe{v:DZ}{H:Nat}{n:Nat}{F:Nat->Int}{t:DX}{x:Int}{K:Ec}(h:Rw w0 w v e H m xs L)(hi:L[i]?=some (b,.cells (fnA n (inF F)) t))(j:Nat)(U:off=j)(V:j<n)(W:∀w',Rw w0 w' v e H m xs (L.set i (b,.cells (fnA n (inF (updI F j x))) t))->K w'):StoreV w b off (ii x) K:=by
 subst U;refine StoreV.own (h.mem.get (zmg hi)) (by rw[qaq];exact V) rfl λw' Z=>W w' ?_;have:=Rw.setCell h hi Z
 rwa[qhf,q7h]at this
def idsC(l:LB)(i:Nat):Ee:=[ii (tNum l i 0),ii (tNum l i 1),ii (tNum l i 2),ii (tNum l i 3)]
def idsL(l:LB)(n:Nat):Ee:=((List.range n).map (idsC l)).flatten
def TopR(l:LB)(base:Nat)(v:DZ)(w:DU):Prop:=
 (∀k,1<=k->k<=3->LvlV l k)/\∃B c,v=.tuple #[.slice B (vNum l 3) c,fltV 0 0]/\w.ownsRow base 95 4 (.slice B (vNum l 3) c) (vNum l 3) (idsL l (vNum l 3))
theorem qai5:Eg.underlying 93=some (.slice 95):=Tryz.underlying93
theorem idsI:Eg.info? 95=some ((Eg.info? 95).get Jk):=(Bt _).symm
theorem idsZ:((Eg.info? 95).get Jk).zero=some ((((Eg.info? 95).get Jk).zero).get Jk):=(Bt _).symm
theorem qabu(l:LB)(A:oA)(c:Nat)(w:DU)(hS:SlAt encB 1 w A l)(hc:l.length<=c)(hl:l.length<=67108864)(h0:(toE l).2=0):
  Gv Eg 98 [.slice A l.length c] w λv w'=>TopR l w.heap.size v w'/\Ext w w':=by
 obtain⟨hE,bg⟩:=qca h0;have bh:=λk F w' (bi:SlAt encB 1 w' A l) (hF:HdF l F) (hk:k<4)=>q5k l A c k F w' bi hc hl hF hE hk (bg k hk)
 refine ze Tryz.func98 Tryz.ntmps98 ?_;refine znm (Mem.nil w) λr3 w1 H=>zw ?_;refine zcv (qaa3 l A _ c w1 (hS.ext H.ext) rfl hc Oo hE) ?_;rintro r w2 ⟨⟨F,hF,rfl⟩,bj⟩;have H:=H.call bj;(conv=>whnf);refine znm H λZ w3 H=>zw ?_;refine znm H λfb w4 H=>zw ?_;refine StoreA.all H (i:=1) rfl (by simp[qaq]) (qlz 13 F) λw5 H=>zw ?_;refine zS H 0 λw6 H=>zw ?_;refine zr H 0 ?_;refine zv ?_;refine znm H ?_;intro lv w7 H;have H:Mem w w7 [(lv,.cells (fnA 8 λ_=>.slice none 0 0) 172),(fb,.cells #[ii 0,ii 0] 120),(Z,.cells (fnA 13 (inF F)) 118),(r3,.cells #[ii 0,ii 0] 120)]:=H;(conv=>whnf);refine qk (λk:Nat=>[(0,.slice A l.length c),(3,pp r3),(4,pp Z),(6,pp lv),(7,ii k)])
  (λk w'=>k<=4/\∃G R,Mem w w' ((lv,.cells (fnA 8 G) 172)::(fb,.cells #[ii 0,ii 0] 120)::(Z,.cells (fnA 13 (inF F)) 118)::(r3,.cells #[ii 0,ii 0] 120)::R)/\∀m,m<k->LevV l m (G (2*m)) (G (2*m+1)) R) (λk=>4-k) 0
  fq ⟨by omega,_,[],H,λm h=>by omega⟩ ?_
 clear H;rintro k w8 bt ⟨k1,G,R,H,hG⟩;(conv=>whnf);refine zC (λ_=>zw ?_) (λ_=>zw ?_)
 ·refine LoadA.mem H (i:=2) rfl (by simp[qaq];rfl) (zw ?_);refine zcv (bh k F w8 (hS.ext H.ext) hF Oo) ?_;rintro r w9 ⟨bk,A1,ca,B,nb,cb,R2,bs,rfl,a4,af,ag,ak⟩;have H:=qyj H a4;have H:Mem w w9 ((lv,.cells (fnA 8 G) 172)::(fb,.cells #[ii 0,ii 0] 120)::(Z,.cells (fnA 13 (inF F)) 118)::(r3,.cells #[ii 0,ii 0] 120)::(R++R2)):=H;have a5:∀m,m<k->LevV l m (G (2*m)) (G (2*m+1)) (R++R2):=λm h=>(hG m h).keep λx hx=>Aj _ hx
  have a6:LevV l k (.slice A1 (vNum l k) ca) (.slice B nb cb) (R++R2):=⟨bk,A1,ca,B,nb,cb,bs,rfl,rfl,V.RowB.left af,V.RowB.left ag,ak⟩
  clear a4 af ag hG;generalize R++R2=R3 at H a5 a6;(conv=>whnf);refine znm H λeb a7 H=>zw ?_;refine znm H λgb an H=>zw ?_;refine zS H 1 λa8 H=>zw ?_;refine zS H 0 λao H=>zw ?_;refine zr H 0 ?_;refine zv ?_;refine zl H 1 ?_;refine zv ?_;rw[show tsz Eg 171=2 from by kernel_rfl,show 0+k*2=2*k by omega];refine StoreA.mem H (i:=2) rfl (by rw[qaq];show 2*k+2<=8;omega) (by simp[Value.oneCell']) ?_;intro aq H;have H:Mem w aq ((gb,.cells #[ii 0,ii 0] 120)::(eb,.cells #[.slice A1 (vNum l k) ca,.slice B nb cb] 171)::(lv,.cells (fnA 8 (updF (updF G (2*k) (.slice A1 (vNum l k) ca)) (2*k+1) (.slice B nb cb))) 172)::(fb,.cells #[ii 0,ii 0] 120)::(Z,.cells (fnA 13 (inF F)) 118)::(r3,.cells #[ii 0,ii 0] 120)::R3):=by
   rw[<-qae8 8 G (2*k) _ _ Oo];exact H
  have H:=(H.sub (AS ..)).sub (AS ..);refine zu ?_;refine⟨k+1,fq,⟨by omega,_,_,H,λm h=>?_⟩,by omega⟩
  by_cases e:m=k
  ·subst e;rw[qac _ _ _ _ Oo,qb3,qb3];exact a6
  ·rw[qac _ _ _ _ Oo,qac _ _ _ _ Oo,qac _ _ _ _ Oo,qac _ _ _ _ Oo];exact a5 m Oo
 obtain rfl:k=4:=by omega
 have hL:∀k,1<=k->k<=3->LvlV l k:=λk h1 h2=>(hG k Oo).1 Oo
 obtain⟨hz,hv,_⟩:=qwb hE;have bu:=qis (hz 3 Oo);refine znm H ?_;intro ab w9 H;have H:Mem w w9 ((ab,.cells (fnA 4 (inF λ_=>0)) 94)::(lv,.cells (fnA 8 G) 172)::(fb,.cells #[ii 0,ii 0] 120)::(Z,.cells (fnA 13 (inF F)) 118)::(r3,.cells #[ii 0,ii 0] 120)::R):=H;(conv=>whnf);refine qk (λx:Nat×(Nat->Int)×oA×Nat=>[(3,pp r3),(4,pp Z),(6,pp lv),(10,.slice x.2.2.1 x.1 x.2.2.2),(11,pp ab),(12,ii x.1)])
  (λx w'=>x.1<=vNum l 3/\(∀m,m<3->x.2.1 m=((tUp l x.1 (3-m):Nat):Int))/\Rw w w' (.slice x.2.2.1 x.1 x.2.2.2) 95 4 x.1 (idsL l x.1) ((ab,.cells (fnA 4 (inF x.2.1)) 94)::(lv,.cells (fnA 8 G) 172)::(fb,.cells #[ii 0,ii 0] 120)::(Z,.cells (fnA 13 (inF F)) 118)::(r3,.cells #[ii 0,ii 0] 120)::R)) (λx=>vNum l 3-x.1) (0,(λ_=>0),none,0)
  fq ⟨Ag _,λm _=>by rw[qrd];rfl,Rw.nil H⟩ ?_
 clear H;rintro⟨i,a,B,cc⟩ a7 bv ⟨i1,ha,U⟩;dsimp only at i1 ha U|-;have H:=U.mem;(conv=>whnf);refine zJ 3 ?_;(conv=>whnf);refine LoadV.fi (x:=((vNum l 3:Nat):Int)) H (i:=3) rfl 3 (by rw[show tsz Eg 3=1 from by kernel_rfl];rfl) Oo (hF.c 3 Oo) ?_;clear H;conv=>whnf
 (repeat'(first|refine zC (λ_=>zw ?_) (λ_=>zw ?_)|(refine zJ 3 ?_;(conv=>whnf))))
 ·refine qahe U (i:=0) rfl 3 (by rw[show tsz Eg 3=1 from by kernel_rfl]) Oo ?_;clear U;intro an U;obtain⟨a',ea⟩:∃a',a'=updI a 3 (i:Nat):=⟨_,rfl⟩
  have ar:∀m,m<4->a' m=((tUp l i (3-m):Nat):Int):=λm h=>by
   by_cases e:m=3
   ·subst e;rw[ea,qd2];rfl
   ·rw[ea,qa4 _ _ _ _ e];exact ha m Oo
  have U:Rw w an (.slice B i cc) 95 4 i (idsL l i) ((ab,.cells (fnA 4 (inF a')) 94)::(lv,.cells (fnA 8 G) 172)::(fb,.cells #[ii 0,ii 0] 120)::(Z,.cells (fnA 13 (inF F)) 118)::(r3,.cells #[ii 0,ii 0] 120)::R):=by rw[ea];exact U
  clear ha ea;(conv=>whnf);refine NewV.rw U ?_;clear U;intro qb a8 U;have U:Rw w a8 (.slice B i cc) 95 4 i (idsL l i) ((qb,.cells (fnA 4 (inF λ_=>0)) 95)::(ab,.cells (fnA 4 (inF a')) 94)::(lv,.cells (fnA 8 G) 172)::(fb,.cells #[ii 0,ii 0] 120)::(Z,.cells (fnA 13 (inF F)) 118)::(r3,.cells #[ii 0,ii 0] 120)::R):=U;(conv=>whnf);refine qk (λx:Nat×(Nat->Int)=>[(3,pp r3),(4,pp Z),(6,pp lv),(10,.slice B i cc),(11,pp ab),(12,ii i),(13,pp qb),(14,ii x.1)])
   (λx w'=>x.1<=4/\(∀m,m<x.1->x.2 m=((tNum l i m:Nat):Int))/\Rw w w' (.slice B i cc) 95 4 i (idsL l i) ((qb,.cells (fnA 4 (inF x.2)) 95)::(ab,.cells (fnA 4 (inF a')) 94)::(lv,.cells (fnA 8 G) 172)::(fb,.cells #[ii 0,ii 0] 120)::(Z,.cells (fnA 13 (inF F)) 118)::(r3,.cells #[ii 0,ii 0] 120)::R)) (λx=>4-x.1) (0,λ_=>0)
   fq ⟨by simp,λm h=>by simp at h,U⟩ ?_
  clear U;rintro⟨k,q⟩ ao bw ⟨k1,hq,U⟩;dsimp only at k1 hq U|-;(conv=>whnf);refine zC (λ_=>zw ?_) (λ_=>zw ?_)
  ·obtain⟨au,A1,ca,B1,nb,cb,bs,av,aw,af,ag,ak⟩:=hG k Oo;obtain⟨z1,z2,z3⟩:=qix (hv k Oo);have bz:=qis (hz k Oo);have aa:=qg8 hL (show i<vNum l 3 by omega) (3-k) Oo;rw[show 3-(3-k)=k by omega]at aa;have a9:=ar k Oo;have ax:tNum l i k=numP (qg l k) (tw l k) (tUp l i (3-k)):=rfl;obtain⟨y,ey⟩:∃y,y=tUp l i (3-k):=⟨_,rfl⟩
   rw[<-ey]at aa a9 ax;have ay:(unpN (qg l k) (vNum l k) (tw l k))[y]'(by rw[qc0];exact aa)=tNum l i k:=by
    rw[ax,qky _ _ _ Oo];simp[unpN]
   have ba:tNum l i k<8388608:=by
    rw[<-ay];exact Bf (q7b (AH ..)) (AY Od z2:2 ^ tw l k<=2 ^ 23)
   obtain⟨x,ex⟩:∃x,x=tNum l i k:=⟨_,rfl⟩
   rw[<-ex]at ay ba;rw[av]at af;have H:=U.mem;have hC:SlAt encU 1 ao A1 (unpN (qg l k) (vNum l k) (tw l k)):=V.RowB.slf (f:=λx:Nat=>Value.int .u64 (x:Int)) (λ_=>rfl) af H (λx hx=>by simp[hx]);clear ax ey;refine DrawV.own rfl Jk (zw ?_);refine zo ?_;refine zo ?_;apply StepO.still
   ·intro wd hd;(conv=>whnf);refine IdxV.at_ k Oo Oo (zw ?_);exact PostO.still xr rfl
   (conv=>whnf);refine zo ?_;apply StepO.still
   ·intro wd hd;(conv=>whnf);refine LoadV.fn (v:=.slice A1 (vNum l k) ca) (Mem.call (Mem.drew H) hd) (i:=2) rfl (2*k) (by rw[show tsz Eg 171=2 from by kernel_rfl];dsimp only;omega) Oo av (zw ?_);exact PostO.still xr rfl
   (conv=>whnf);refine zo ?_;apply StepO.still
   ·intro wd hd;(conv=>whnf);refine IdxV.at_ k Oo Oo (zw ?_);exact PostO.still xr rfl
   (conv=>whnf);apply StepO.still
   ·intro wd hd;(conv=>whnf);refine LoadV.fi (x:=((y:Nat):Int)) (Mem.call (Mem.drew H) hd) (i:=1) rfl k (by rw[show tsz Eg 3=1 from by kernel_rfl];omega) Oo a9 (zw ?_);exact PostO.still xr rfl
   (conv=>whnf);obtain⟨gb,go,bl,bm⟩:=hC.at_ (by intro e;have:=Ae List.length e;rw[qc0]at this;simp at this;omega);subst bl;apply StepO.still
   ·intro wd hd;(conv=>whnf);refine⟨⟨gb,go,y,rfl,by omega,by omega,?_⟩⟩;(conv=>whnf);exact PostO.still xr rfl
   (conv=>whnf);have W:ao.cell? ⟨gb,go+y*1,none⟩=some (.int .u64 x):=by
    have:=bm y _ (zge (by rw[qc0];exact aa)) 0 (.int .u64 x) (by rw[ay];rfl)
    rwa[BB]at this
   apply StepO.still
   ·intro wd hd;(conv=>whnf);refine LoadV.of (Ext.cell (Ext.trans xr.drew hd) W) (zw ?_);exact PostO.still xr rfl
   (conv=>whnf);refine zo ?_;apply StepO.still
   ·intro wd hd;(conv=>whnf);refine IdxV.at_ k Oo Oo (zw ?_);exact PostO.still xr rfl
   (conv=>whnf);intro aq bb
   (repeat(intro _;(conv=>whnf)))
   (conv=>whnf);refine qahe (U.drew.call bb) (i:=0) rfl k (by rw[show tsz Eg 3=1 from by kernel_rfl];omega) Oo ?_;intro az U;have U:Rw w az (.slice B i cc) 95 4 i (idsL l i) ((qb,.cells (fnA 4 (inF (updI q k x))) 95)::(ab,.cells (fnA 4 (inF a')) 94)::(lv,.cells (fnA 8 G) 172)::(fb,.cells #[ii 0,ii 0] 120)::(Z,.cells (fnA 13 (inF F)) 118)::(r3,.cells #[ii 0,ii 0] 120)::R):=U;refine zu ?_;refine⟨(k+1,updI q k x),fq,⟨by simp only;omega,λm h=>?_,U⟩,by simp only;omega⟩;dsimp only at h|-
   by_cases e:m=k
   ·subst e;rw[qd2,ex]
   ·rw[qa4 _ _ _ _ e];exact hq m Oo
  obtain rfl:k=4:=by omega
  have be:(fnA 4 (inF q)).toList=idsC l i:=by
   simp only[fnA,idsC];show[ii (q 0),ii (q 1),ii (q 2),ii (q 3)]=_;rw[hq 0 Oo,hq 1 Oo,hq 2 Oo,hq 3 Oo]
  refine LoadA.mem U.mem (i:=0) rfl (by simp[qaq];rfl) ?_;rw[be];(conv=>whnf);refine NewV.rw U λnb aq U=>zw ?_;refine AppV.rw (m:=1) (news:=idsC l i) qai5 idsI idsZ Jk Jk Od U rfl (λ_=>⟨nb,0,rfl,λk v hv=>?_⟩) (by simp[idsC,Value.oneCell']) (by rw[show((Eg.info? 95).get Jk).bytes=32 from by kernel_rfl];omega) Oo ?_
  ·rw[qa (U.mem.get mh),As];rw[An];exact hv
  clear U;intro B2 c2 az U;have U:Rw w az (.slice B2 (i+1) c2) 95 4 (i+1) (idsL l (i+1)) ((ab,.cells (fnA 4 (inF a')) 94)::(lv,.cells (fnA 8 G) 172)::(fb,.cells #[ii 0,ii 0] 120)::(Z,.cells (fnA 13 (inF F)) 118)::(r3,.cells #[ii 0,ii 0] 120)::R):=by
   have e:idsL l (i+1)=idsL l i++idsC l i:=by simp[idsL,Ck]
   rw[e];exact U.tail.tail
  (conv=>whnf);refine qk (λx:Nat×(Nat->Int)=>[(3,pp r3),(4,pp Z),(6,pp lv),(10,.slice B2 (i+1) c2),(11,pp ab),(12,ii i),(15,ii x.1),(16,ii (tUp l i (3-x.1):Nat))])
   (λx w'=>x.1<=3/\tUp l (i+1) (3-x.1)=tUp l i (3-x.1)+1/\(∀m,x.1<=m->m<3->x.2 m=((tUp l (i+1) (3-m):Nat):Int))/\(∀m,m<x.1->x.2 m=((tUp l i (3-m):Nat):Int))/\Rw w w' (.slice B2 (i+1) c2) 95 4 (i+1) (idsL l (i+1)) ((ab,.cells (fnA 4 (inF x.2)) 94)::(lv,.cells (fnA 8 G) 172)::(fb,.cells #[ii 0,ii 0] 120)::(Z,.cells (fnA 13 (inF F)) 118)::(r3,.cells #[ii 0,ii 0] 120)::R)) (λx=>x.1) (3,a')
   fq ⟨Ai _,rfl,λm h1 h2=>by omega,λm h=>ar m Oo,U⟩ ?_
  clear U ar hq be;rintro⟨k,a⟩ bn b0 ⟨k1,hu,h1,h2,U⟩;dsimp only at k1 hu h1 h2 U|-;have al:i<vNum l 3:=by omega
  (conv=>whnf);refine zC (λ_=>zu ?_) (λ_=>zu ?_)
  ·obtain⟨au,A1,ca,B1,b1,cb,bs,av,aw,af,ag,ak⟩:=hG k Oo;obtain⟨rfl,rfl⟩:=ak Oo;have aa:=qg8 hL al (3-k) Oo;rw[show 3-(3-k)=k by omega]at aa;have au:=hL k Oo k1;have ad:=qnb hL al (show 3-k<3 by omega) hu;have ae:=qk6 hL al (show 3-k<3 by omega) hu;rw[show 3-(3-k)=k by omega]at ad ae;have ai:∀m,m<k->tUp l (i+1) (3-k+1)=tUp l i (3-k+1)->tUp l (i+1) (3-m)=tUp l i (3-m):=λm ah h=>qk7 h Oo
   have a0:a (k-1)=((tUp l i (3-k+1):Nat):Int):=by rw[h2 (k-1) Oo,show 3-(k-1)=3-k+1 by omega]
   obtain⟨y,ey⟩:∃y,y=tUp l i (3-k):=⟨_,rfl⟩
   rw[<-ey]at aa ad ae;have b2:y<(bitL (qe l k) (vNum l k)).length:=by simp[bitL];exact aa
   obtain⟨b,Z⟩:∃b,b=(bitL (qe l k) (vNum l k))[y]:=⟨_,rfl⟩
   have bf:b=decide (bitN ((qe l k).drop 8) y=1):=by
    rw[Z];simp only[bitL,CA,DK];rw[vD,qdk];rw[au.n];unfold upN;omega
   rw[aw]at ag;have hB:SlAt encO 1 bn B1 (bitL (qe l k) (vNum l k)):=V.RowB.slf (f:=Value.bool) (λ_=>rfl) ag U.mem (λx hx=>by simp[hx]);refine LoadV.fn (v:=.slice B1 (vNum l k) cb) U.mem (i:=1) rfl (2*k+1) (by rw[show tsz Eg 171=2 from by kernel_rfl];dsimp only;omega) Oo aw (zw ?_);rw[<-ey];refine zv ?_;refine ElemV.sl hB (by simp[bitL]) y rfl aa ?_;intro eb eo W;rw[<-Z]at W;refine zu ?_;refine LoadV.cell0 W (zu ?_);cases b
   ·have a1:=of_decide_eq_false bf.symm;have bo:=ae a1;refine zu ?_;refine⟨(i+1,a,B2,c2),fq,⟨by simp only;omega,λm ah=>?_,U⟩,by simp only;omega⟩;dsimp only
    rcases Bj m k with am|am
    ·rw[h2 m am,ai m am bo]
    ·exact h1 m am ah
   ·have a1:=Cs bf.symm;have a2:=ad a1;obtain⟨z,ez⟩:∃z,z=tUp l i (3-k+1):=⟨_,rfl⟩
    have b3:z<vNum l (k-1):=by
     have:=qg8 hL al (3-k+1) Oo;rw[ez]
     rwa[show 3-(3-k+1)=k-1 by omega]at this
    have br:=qis (hz (k-1) Oo);rw[<-ez]at a0 a2;clear W Z ad ae ai;refine zu ?_;refine IdxV.at_ (k-1) Oo Oo (zw ?_);refine LoadV.fi (x:=((z:Nat):Int)) U.mem (i:=0) rfl (k-1) (by rw[show tsz Eg 3=1 from by kernel_rfl];omega) Oo a0 (zu ?_);refine IdxV.at_ (k-1) Oo Oo (zw ?_);refine LoadV.fi (x:=((z:Nat):Int)) U.mem (i:=0) rfl (k-1) (by rw[show tsz Eg 3=1 from by kernel_rfl];omega) Oo a0 (zu ?_);refine IdxV.at_ (k-1) Oo Oo (zw ?_);refine qahe (x:=((z:Nat):Int)+1) U (i:=0) rfl (k-1) (by rw[show tsz Eg 3=1 from by kernel_rfl];omega) Oo ?_;clear U;intro bp U;have U:Rw w bp (.slice B2 (i+1) c2) 95 4 (i+1) (idsL l (i+1)) ((ab,.cells (fnA 4 (inF (updI a (k-1) (((z:Nat):Int)+1)))) 94)::(lv,.cells (fnA 8 G) 172)::(fb,.cells #[ii 0,ii 0] 120)::(Z,.cells (fnA 13 (inF F)) 118)::(r3,.cells #[ii 0,ii 0] 120)::R):=U;refine zu ?_;have e3:3-(k-1)=3-k+1:=by omega
    refine⟨(k-1,updI a (k-1) (((z:Nat):Int)+1)),⟨rfl,rfl,rfl,rfl,rfl,rfl,?_,?_,trivial⟩,⟨by simp only;omega,?_,λm a3 ah=>?_,λm a3=>?_,U⟩,by simp only;omega⟩
    ·exact Ae (Value.int .i64) (by simp only;omega)
    ·exact Ae (λn:Nat=>ii (n:Int)) (by simp only;rw[e3];exact ez)
    ·simp only;rw[e3,a2,ez]
    ·dsimp only at a3|-
     by_cases e:m=k-1
     ·subst e;rw[qd2,e3,a2];omega
     ·rw[qa4 _ _ _ _ e];exact h1 m Oo ah
    ·dsimp only at a3|-;rw[qa4 _ _ _ _ Oo];exact h2 m Oo
  ·obtain rfl:k=0:=by omega
   refine⟨(i+1,a,B2,c2),fq,⟨by simp only;omega,λm ah=>?_,U⟩,by simp only;omega⟩;exact h1 m (Ag _) ah
 ·obtain rfl:i=vNum l 3:=by omega
  refine StoreA.same (U.mem.get (L:=_) Js:a7.heap[r3]?=some (.cells #[ii 0,ii 0] 120)) rfl Od λan aj=>zw ?_;refine qi (R:=λv w'=>TopR l w.heap.size v w'/\Ext w w') (zw ?_);refine LoadA.mem (U.mem.call aj) (i:=4) rfl rfl (zw ?_);exact⟨⟨hL,B,cc,rfl,qcf U.own aj⟩,U.mem.ext.trans aj⟩
structure Al(w0:DU)(L:Ed)(o1 o1' o2 o2':Obj)(s1 s2 t1 t2:Bool)(v1 v2:DZ)(w:DU):Prop where
 h:∃b1 b2:Nat,(s1=true->v1=pp b1)/\(s2=true->v2=pp b2)/\(s1=false->t1=false)/\(s2=false->t2=false)/\
  Mem w0 w ((bif s1 then[(b1,bif t1 then o1' else o1)]else[])++((bif s2 then[(b2,bif t2 then o2' else o2)]else[])++L))
section
variable {w0 w w':DU} {L:Ed} {o1 o1' o2 o2':Obj} {s1 s2 t1 t2:Bool} {v1 v2:DZ}
theorem Al.start(h:Mem w0 w L):Al w0 L o1 o1' o2 o2' false false false false v1 v2 w:=⟨0,0,Js,Js,λ_=>rfl,λ_=>rfl,h⟩
theorem Al.call(h:Al w0 L o1 o1' o2 o2' s1 s2 t1 t2 v1 v2 w)(H:Ext w w'):Al w0 L o1 o1' o2 o2' s1 s2 t1 t2 v1 v2 w':=by
 obtain⟨b1,b2,U,V,W,Z,h5⟩:=h;exact⟨b1,b2,U,V,W,Z,h5.call H⟩
theorem Al.mem(h:Al w0 L o1 o1' o2 o2' s1 s2 t1 t2 v1 v2 w):Mem w0 w L:=by
 obtain⟨b1,b2,U,V,W,Z,H⟩:=h;exact H.sub Js
theorem Al.new1(h:Al w0 L o1 o1' o2 o2' false s2 t1 t2 v1 v2 w):Al w0 L o1 o1' o2 o2' true s2 t1 t2 (.pointer (some ⟨w.heap.size,0,none⟩)) v2 (w.alloc o1):=by
 obtain⟨b1,b2,Z,H,U,V,W⟩:=h;refine⟨w.heap.size,b2,λ_=>rfl,H,Js,V,?_⟩;rw[U rfl];exact W.new rfl rfl
theorem Al.put1(h:Al w0 L o1 o1' o2 o2' true s2 false t2 v1 v2 w):∃b,v1=pp b/\∃M,Mem w0 w ((b,o1)::M)/\∀{w' H},Mem w0 w' ((b,o1')::M)->H=pp b->Al w0 L o1 o1' o2 o2' true s2 true t2 H v2 w':=by
 obtain⟨b1,b2,U,V,h3,W,Z⟩:=h;exact⟨b1,U rfl,_,Z,λhm hu=>⟨b1,b2,λ_=>hu,V,Js,W,hm⟩⟩
theorem Al.done1(h:Al w0 L o1 o1' o2 o2' true false true t2 v1 v2 w):∃b1,v1=pp b1/\Mem w0 w ((b1,o1')::L):=by
 grind [h]
end
theorem LoadV.fim{n:Nat}{F:Nat->Int}{t:DX}{x:Int}{K:DZ->Prop}(h:Mem w0 w L)(hi:(b,Obj.cells (fnA n (inF F)) t)∈L)(j:Nat)(e:off=j)(H:j<n)(U:F j=x)(V:K (ii x)):LoadV w b off K:=by
 obtain⟨i,hi⟩:=List.getElem?_of_mem hi;exact LoadV.fi h hi j e H U V
theorem qadm(h:(sE l).2=0):(∀k,k<3->vNum l k<=67108864)/\qr l 3=l.length:=by
 unfold sE at h
 split at h
 ·omega
 rename_i U
 split at h
 ·cases h
 rename_i V
 split at h
 ·cases h
 rename_i W
 exact⟨λk H=>qf2 (qan (f:=vsF l) (n:=3) Oo k H),by omega⟩
theorem qmx(h:qr l 3=l.length)(H:k<3):qr l k+vNum l k<=l.length:=by
 grind [qr]
theorem qto(h:qr l 3=l.length)(H:k<3):(sDict l k).length=vNum l k:=by
 have:=qmx h H
 grind [sDict]
open Go.RowKit
namespace V
theorem StoreA.row{t:DX}{K:Ec}(h:Mem w0 w L)(hi:L[i]?=some (b,.cells cur t))(hl:off+vs.length<=cur.size)(h1:∀v∈vs,v.oneCell'=true)(U:∀w',(∀c,c≠b->w'.heap[c]?=w.heap[c]?)->w.heap.size<=w'.heap.size->Mem w0 w' (L.set i (b,.cells (cur.toList.take off++vs++cur.toList.drop (off+vs.length)).toArray t))->K w'):StoreA P w b off vs K:=by
 have V:(b,Obj.cells cur t)∈L:=(by grind)
 have W:=h.get V;have Z:=run_storeCells_at P b off t vs 0 cur w W (by simpa using hl) h1;simp only[BB]at Z;refine⟨_,Z,U _ (λc H=>qq H) Js ?_⟩;refine h.set hi ?_ (qbw W) (λc H=>qq H);exact Below.trans h.ext ⟨rfl,rfl,rfl,by simp,λk U=>qq (by have:=(h.own _ V).1;omega)⟩
section
variable {w0 w w':DU} {L L':Ed} {o:Obj} {m1 m2 m3:Eb} {c1 c2 c3:Bool} {v1 v2 v3:DZ}
end
theorem StoreV.row{t:DX}{v:DZ}{K:Ec}(h:Mem w0 w L)(hi:L[i]?=some (b,.cells cs t))(H:off<cs.size)(U:qco v=true)(V:∀w',(∀c,c≠b->w'.heap[c]?=w.heap[c]?)->w.heap.size<=w'.heap.size->Mem w0 w' (L.set i (b,.cells (cs.setIfInBounds off v) t))->K w'):StoreV w b off v K:=
 StoreV.own (h.get (zmg hi)) H U λw' W=>V w' (by grind [Below.heap_setCell]) (by simp_all) (h.setCell hi W)
theorem CellsAt.other{x:Nat}(h:CellsAt w b off vs)(U:b≠x)(V:∀c,c≠x->w'.heap[c]?=w.heap[c]?):CellsAt w' b off vs:=by
 intro k v H;have:=h k v H
 grind [World.cell?]
theorem SlAt.other{α:Type}{H:α->Ee}{U:Nat}{l:List α}{x:Nat}{t:DX}(h:SlAt H U w A l)(hx:w.heap[x]?=some (.cells cs t fz))(W:∀y∈l,∀v∈cs.toList,(H y)[0]?≠some v)(Z:∀y∈l,H y≠[])(hw:∀c,c≠x->w'.heap[c]?=w.heap[c]?):SlAt H U w' A l:=by
 refine⟨λhn=>?_⟩;obtain⟨b,off,h1,h2⟩:=h.at_ hn;refine⟨b,off,h1,λj y hy=>(h2 j y hy).other ?_ hw⟩;intro aa;subst aa;have V:y∈l:=zmg hy;obtain⟨v,hv⟩:∃v,(H y)[0]?=some v:=by
  cases he:H y with
  | nil=>exact absurd he (Z y V)
  | cons v r=>exact⟨v,rfl⟩
 have h3:=h2 j y hy 0 v hv;rw[qa hx]at h3;exact W y V v (D9.2 (CV h3)) hv
end V
def qww(w:DU):Prop:=w.cell? ⟨0,0,none⟩=some (.iface 314 (.agg #[.pointer (some ⟨7,38,none⟩)]))
theorem qrs(t:DZ)(w:DU):Gv Eg 52 [.nilIface,t] w λr w'=>r=.bool false/\w'=w:=
 qg0 Jk ((qaip t w).mono λe w' ⟨H,U⟩=>⟨_,H,rfl,U⟩)
def vF(d:Nat->Nat)(l:LB)(k:Nat):Nat->DZ:=λj=>
 if j=6 then ii (vTot l k:Nat)else if j/2<k then(if j%2=0 then .pointer (some ⟨d (j/2),0,none⟩)else ii (vTot l (j/2)+1:Nat))else(if j%2=0 then .pointer none else ii 0)
structure VocAt(w:DU)(b:Nat)(l:LB):Prop where
 h:∃d,w.heap[b]?=some (.cells (fnA 7 (vF d l 3)) 305)/\∀k,k<3->DictAt w (d k) (sDict l k)
theorem VocAt.ext(h:VocAt w b l)(H:Ext w w'):VocAt w' b l:=by
 obtain⟨d,U,V⟩:=h;exact⟨d,H.get U,λk W=>(V k W).ext H⟩
theorem qx0(n:Nat)(F:Eb)(j:Nat)(h:j<n):(fnA n F).toList[j]?=some (F j):=by
 have:=qdr n F j h
 simpa using this
theorem q9k(n:Nat)(F:Eb)(i:Nat)(a b:DZ)(h:i+2<=n):((fnA n F).toList.take i++[a,b]++(fnA n F).toList.drop (i+[a,b].length)).toArray=fnA n (updF (updF F i a) (i+1) b):=by
 rw[<-qhf,<-qhf,<-BA];simp only[Ci,AC,BO];have H:(fnA n F).toList.length=n:=by simp[qaq]
 generalize(fnA n F).toList=xs at H;apply Bk;intro j;rw[Cr,Cr,Aw,Cp];simp only[Az,DD,H]
 by_cases U:j<i
 ·rw[Ad Oo,Aa Oo,Aa Oo,BE,Ad U]
 ·rw[Aa Oo,Cp];simp only[AC,BO]
  by_cases V:j=i
  ·subst V;rw[Ad Oo,Aa Oo,Ad rfl,Ad Oo,show j-min j n=0 by omega];rfl
  ·by_cases W:j=i+1
   ·subst W;rw[Ad Oo,Ad rfl,Ad Oo,show i+1-min i n=1 by omega];rfl
   ·rw[Aa Oo,Aa Oo,Aa Oo,Cn]
    congr 1
    omega
theorem DictAt.other{x:Nat}{m:LB}{t:DX}(h:DictAt w b m)(V:w.heap[x]?=some (.cells cs t fz))(ht:t≠395)(hc:∀v∈cs.toList,∀c:Nat,v≠.int .u8 c)(W:∀c,c≠x->w'.heap[c]?=w.heap[c]?):DictAt w' b m:=by
 obtain⟨⟨P,cp,E,ce,H,h2,h3,h4⟩,h5,h6,h7,h8⟩:=h;have Z:b≠x:=by
  intro e;subst e;rw[V]at H
  injection H with H
  injection H with _ H _
  exact ht H
 have U:∀(z:LB),∀y∈z,∀v∈cs.toList,(encB y)[0]?≠some v:=λz y _ v hv e=>by
  cases e;exact hc _ hv _ rfl
 exact⟨⟨P,cp,E,ce,by rw[W b Z];exact H,h2.other V (U _) (λ_ _ e=>by cases e) W,h3.other V (U _) (λ_ _ e=>by cases e) W,h4⟩,h5,h6,h7,h8⟩
theorem qadv(d:Nat->Nat)(l:LB)(k j:Nat):∀c:Nat,vF d l k j≠.int .u8 c:=by
 intro c;unfold vF
 split
 ·intro e;cases e
 ·split
  ·split<;>(intro e;cases e)
  ·split<;>(intro e;cases e)
theorem qah7(d:Nat->Nat)(l:LB)(k b:Nat)(H:k<3):fnA 7 (updF (updF (updF (vF d l k) (2*k) (pp b)) (2*k+1) (ii (vTot l k+1:Nat))) 6 (ii (vTot l (k+1):Nat))) =
  fnA 7 (vF (λj=>if j=k then b else d j) l (k+1)):=qeg λj U=>by
 rcases(show k=0\/k=1\/k=2 by omega)with rfl|rfl|rfl<;>
 rcases(show j=0\/j=1\/j=2\/j=3\/j=4\/j=5\/j=6 by omega)with rfl|rfl|rfl|rfl|rfl|rfl|rfl<;>rfl
theorem q9m(l:LB)(A:oA)(c:Nat)(w:DU)(hS:SlAt encB 1 w A l)(hc:l.length<=c)(hl:l.length<=70368744177664)(hE:(sE l).2=0)(f:FuncId)(hf:∀k,k<3->∀w' B c',Ext w w'->SlAt encB 1 w' B (sDict l k)->(sDict l k).length<=c'->Gv Eg f [.slice B (sDict l k).length c'] w' λv au=>(∃b,v=.tuple #[pp b,.nilIface]/\DictAt au b (sDict l k))/\Ext w' au):
  Gv Eg 163 [.slice A l.length c,.func (.func f) #[] #[]] w λv w'=>(∃b G,v=.tuple #[pp b,.agg (fnA 3 (inF G)),.nilIface]/\(∀k,k<3->G k=((qr l k:Nat):Int))/\VocAt w' b l)/\Ext w w':=by
 have av:=(q6c hE).1;obtain⟨ag,aq⟩:=qadm hE;refine ze Tryz.func163 Tryz.ntmps163 ?_;refine znm (Mem.nil w) λr5 w1 H=>zw ?_;refine zcv (qe8 _ l w1 ⟨A,c,rfl,hc,hS.ext H.ext⟩) ?_;rintro v w2 ⟨cb,rfl,aw,ax,ay⟩;have H:=H.fresh ay aw ax;(conv=>whnf);refine znm H λsz w3 H=>zw ?_;refine znm H ?_;intro W w4 H;have H:Mem w w4 [(W,.cells (fnA 3 (inF (λ_:Nat=>(0:Int)))) 113),(sz,.cells (fnA 3 (inF (λ_:Nat=>(0:Int)))) 113),(cb,curO 367 (.slice A l.length c) (vAt l 0) 0),(r5,.cells (fnA 3 (inF (λ_:Nat=>(0:Int)))) 113)]:=H;(conv=>whnf);refine qk (λx:Nat×(Nat->Int)=>[(0,.slice A l.length c),(1,.func (.func f) #[] #[]),(4,.pointer none),(5,pp r5),(6,.nilIface),(7,pp cb),(8,pp sz),(9,pp W),(24,ii x.1)])
  (λx w'=>x.1<=3/\(∀j,j<x.1->x.2 j=((vNum l j:Nat):Int))/\Mem w w' [(W,.cells (fnA 3 (inF (λ_:Nat=>(0:Int)))) 113),(sz,.cells (fnA 3 (inF (x.2))) 113),(cb,curO 367 (.slice A l.length c) (vAt l x.1) 0),(r5,.cells (fnA 3 (inF (λ_:Nat=>(0:Int)))) 113)]) (λx=>3-x.1) (0,λ_:Nat=>(0:Int))
  fq ⟨by simp,λj h=>by simp at h,H⟩ ?_
 clear H ax ay aw;rintro⟨k,Q⟩ w6 ba ⟨k1,hQ,H⟩;dsimp only at k1 hQ H|-;have a4:=qg9 l k;have bb:=qhs l k;(conv=>whnf);refine zC (λ_=>zw ?_) (λ_=>zw ?_)
 ·refine zcv (qli cb (.slice A l.length c) (vAt l k) 0 w6 (H.get Js)) ?_;rintro r w7 ⟨rfl,rfl⟩;(conv=>whnf);refine zcv (qes cb (.slice A l.length c) (vAt l k) 0 l _ (H.get Js) ⟨A,c,rfl,hc,hS.ext H.ext⟩ a4 Oo) ?_;rintro r w8 ⟨rfl,hu⟩;have he:=qqk (av k Oo);have be:=ag k Oo;rw[qlc he,qld he]at hu;rw[qlb he];have H:Mem w w8 [(W,.cells (fnA 3 (inF (λ_:Nat=>(0:Int)))) 113),(sz,.cells (fnA 3 (inF (Q))) 113),(cb,curO 367 (.slice A l.length c) (vAt l (k+1)) 0),(r5,.cells (fnA 3 (inF (λ_:Nat=>(0:Int)))) 113)]:=H.upd (i:=2) rfl hu;(conv=>whnf);refine zcv (qhe cb (.slice A l.length c) (vAt l (k+1)) 0 w8 (H.get Js)) ?_;rintro r w9 ⟨rfl,rfl⟩;refine zu ?_;refine StoreV.fi (x:=((vNum l k:Nat):Int)) H (i:=1) rfl k (by rw[show tsz Eg 3=1 from by kernel_rfl];omega) Oo ?_;intro ai H;have H:Mem w ai [(W,.cells (fnA 3 (inF (λ_:Nat=>(0:Int)))) 113),(sz,.cells (fnA 3 (inF (updI Q k (vNum l k:Nat)))) 113),(cb,curO 367 (.slice A l.length c) (vAt l (k+1)) 0),(r5,.cells (fnA 3 (inF (λ_:Nat=>(0:Int)))) 113)]:=H;refine zu ?_;refine⟨(k+1,updI Q k (vNum l k:Nat)),fq,⟨by simp only;omega,λj Z=>?_,H⟩,by simp only;omega⟩
  ·simp only at Z|-
   by_cases e:j=k
   ·subst e;exact qd2 _ _ _
   ·rw[qa4 _ _ _ _ e];exact hQ j Oo
 obtain rfl:k=3:=by omega
 refine zcv (qli cb (.slice A l.length c) (vAt l 3) 0 w6 (H.get Js)) ?_;rintro r w7 ⟨rfl,rfl⟩;(conv=>whnf);refine LoadA.mem H (i:=1) rfl (by simp[qaq];rfl) (zw ?_);refine qk (λx:Nat×(Nat->Int)=>[(0,.slice A l.length c),(1,.func (.func f) #[] #[]),(4,.pointer none),(5,pp r5),(6,.nilIface),(8,pp sz),(9,pp W),(13,ii (qr l x.1:Nat)),(53,.agg (fnA 3 (inF Q))),(54,ii x.1)])
  (λx w'=>x.1<=3/\(∀j,j<x.1->x.2 j=((qr l j:Nat):Int))/\Mem w w' [(W,.cells (fnA 3 (inF (x.2))) 113),(sz,.cells (fnA 3 (inF (Q))) 113),(cb,curO 367 (.slice A l.length c) (vAt l 3) 0),(r5,.cells (fnA 3 (inF (λ_:Nat=>(0:Int)))) 113)]) (λx=>3-x.1) (0,λ_:Nat=>(0:Int))
  fq ⟨by simp,λj h=>by simp at h,H⟩ ?_
 clear H;rintro⟨k,P⟩ w8 bf ⟨k2,hP,H⟩;dsimp only at k2 hP H|-;have bg:qr l (k+1)=qr l k+vNum l k:=rfl;have a5:∀j,j<=3->qr l j<=l.length+201326592:=by
  have e0:qr l 0=vAt l 3:=rfl;have e1:qr l 1=qr l 0+vNum l 0:=rfl;have e2:qr l 2=qr l 1+vNum l 1:=rfl;have e3:qr l 3=qr l 2+vNum l 2:=rfl;have h0:=ag 0 Oo;have h1:=ag 1 Oo;have h2:=ag 2 Oo;have h3:=qg9 l 3;intro j Z
  rcases(show j=0\/j=1\/j=2\/j=3 by omega)with rfl|rfl|rfl|rfl<;>omega
 have bh:=a5 k Oo;have bi:3<=k->qr l k=l.length:=λh=>by rw[show k=3 by omega,aq]
 (conv=>whnf);refine zC (λ_=>zu ?_) (λ_=>zu ?_)
 ·have hn:=ag k Oo;refine⟨ii (vNum l k:Nat),?_,?_⟩
  ·rw[show k*tsz Eg 3=k from by rw[show tsz Eg 3=1 from by kernel_rfl];omega];have:=qx0 3 (inF Q) k Oo;rw[inF,hQ k Oo]at this;exact this
  (conv=>whnf);refine IdxV.at_ k Oo Oo (zw ?_);refine StoreV.fi (x:=((qr l k:Nat):Int)) H (i:=0) rfl k (by rw[show tsz Eg 3=1 from by kernel_rfl];omega) Oo ?_;intro ai H;have H:Mem w ai [(W,.cells (fnA 3 (inF (updI P k (qr l k:Nat)))) 113),(sz,.cells (fnA 3 (inF (Q))) 113),(cb,curO 367 (.slice A l.length c) (vAt l 3) 0),(r5,.cells (fnA 3 (inF (λ_:Nat=>(0:Int)))) 113)]:=H;refine zu ?_;refine⟨(k+1,updI P k (qr l k:Nat)),⟨rfl,rfl,rfl,rfl,rfl,rfl,rfl,?_,rfl,rfl,trivial⟩,⟨by simp only;omega,λj Z=>?_,H⟩,by simp only;omega⟩
  ·show ii _=ii _
   congr 1
  ·simp only at Z|-
   by_cases e:j=k
   ·subst e;exact qd2 _ _ _
   ·rw[qa4 _ _ _ _ e];exact hP j Oo
 obtain rfl:k=3:=by omega
 refine znm H ?_;intro vb w9 H;have H:Mem w w9 [(vb,.cells (fnA 7 (vF (λ_=>0) l (0))) 305),(W,.cells (fnA 3 (inF (P))) 113),(sz,.cells (fnA 3 (inF (Q))) 113),(cb,curO 367 (.slice A l.length c) (vAt l 3) 0),(r5,.cells (fnA 3 (inF (λ_:Nat=>(0:Int)))) 113)]:=H;(conv=>whnf);refine LoadA.mem H (i:=2) rfl (by simp[qaq];rfl) (zw ?_);refine qk (λx:Nat×(Nat->Nat)=>[(0,.slice A l.length c),(1,.func (.func f) #[] #[]),(4,.pointer none),(5,pp r5),(6,.nilIface),(9,pp W),(16,pp vb),(84,.agg (fnA 3 (inF Q))),(85,ii x.1)])
  (λx w'=>x.1<=3/\(∀j,j<x.1->DictAt w' (x.2 j) (sDict l j))/\Mem w w' [(vb,.cells (fnA 7 (vF (x.2) l (x.1))) 305),(W,.cells (fnA 3 (inF (P))) 113),(sz,.cells (fnA 3 (inF (Q))) 113),(cb,curO 367 (.slice A l.length c) (vAt l 3) 0),(r5,.cells (fnA 3 (inF (λ_:Nat=>(0:Int)))) 113)]) (λx=>3-x.1) (0,λ_=>0)
  fq ⟨by simp,λj h=>by simp at h,H⟩ ?_
 clear H;rintro⟨k,d⟩ ai bj ⟨k3,V,H⟩;dsimp only at k3 V H|-;(conv=>whnf);refine zC (λ_=>zu ?_) (λ_=>zu ?_)
 ·have hn:=ag k Oo;have al:=hP k Oo;have ao:=qmx aq (k:=k) Oo;have a6:=qto aq (k:=k) Oo;obtain⟨y,ey⟩:∃y,y=qr l k:=⟨_,rfl⟩
  obtain⟨z,ez⟩:∃z,z=vNum l k:=⟨_,rfl⟩
  obtain⟨B,eB⟩:∃B,B=(if y+z=y then A else A.map (·.add (y*1))):=⟨_,rfl⟩
  have hB:SlAt encB 1 w B (sDict l k):=by
   rw[eB,sDict,<-ey];have:=hS.cut (lo:=y) (hi:=y+z) (m:=y+z) Oo Oo Oo rfl
   rwa[show y+z-y=vNum l k by omega]at this
  have ar:=λw' h1 h2=>hf k Oo w' B z h1 h2 Oo
  rw[a6]at ar;refine⟨ii (vNum l k:Nat),?_,?_⟩
  ·rw[show k*tsz Eg 3=k from by rw[show tsz Eg 3=1 from by kernel_rfl];omega];have:=qx0 3 (inF Q) k Oo;rw[inF,hQ k Oo]at this;exact this
  rw[<-ey]at al ao;rw[<-ez]at hn ao ar|-;(conv=>whnf);refine DrawV.free Jk Jk (zw ?_);(iterate 4 (refine zd ?_));refine zsd (ii (y:Nat)) (λwd hd=>zw ?_) (zw ?_)
  ·refine LoadV.fim (x:=((y:Nat):Int)) (H.drew.call hd) (b:=W) (F:=P) (n:=3) (t:=113) Js k (by rw[show tsz Eg 3=1 from by kernel_rfl];omega) Oo al (zw ?_);exact xq
  refine zd ?_;refine zd ?_;refine zsd (ii (y:Nat)) (λwd hd=>zw ?_) (zw ?_)
  ·refine LoadV.fim (x:=((y:Nat):Int)) (H.drew.call hd) (b:=W) (F:=P) (n:=3) (t:=113) Js k (by rw[show tsz Eg 3=1 from by kernel_rfl];omega) Oo al (zw ?_);exact xq
  (iterate 4 (refine zd ?_));refine zsd (ii (y:Nat)) (λwd hd=>zw ?_) (zw ?_)
  ·refine LoadV.fim (x:=((y:Nat):Int)) (H.drew.call hd) (b:=W) (F:=P) (n:=3) (t:=113) Js k (by rw[show tsz Eg 3=1 from by kernel_rfl];omega) Oo al (zw ?_);exact xq
  refine zd ?_;refine zd ?_;refine zsd (.slice B z z) (λwd hd=>zw ?_) (zw ?_)
  ·refine SliceV.to y (y+z) (y+z) rfl (by show(_:Int)=_;omega) (by show(_:Int)=_;omega) Oo znr Oo (λ_=>rfl) ?_;rw[show tsz Eg 5=1 from by kernel_rfl,<-eB,show y+z-y=z by omega];(conv=>whnf);exact xq
  apply StepD.of (λv wx=>∃b,v=.tuple #[pp b,.nilIface]/\DictAt wx b (sDict l k)) (λ_ _ _ ⟨b,h1,h2⟩ he=>⟨b,h1,h2.ext he⟩)
  ·intro wd hd;(conv=>whnf);refine zcv (ar wd (H.drew.call hd).ext (hB.ext (H.drew.call hd).ext)) ?_;rintro v az ⟨⟨b,rfl,V⟩,ae⟩;exact⟨ae,b,rfl,V⟩
  (conv=>whnf);apply StepD.of (λv wx=>∃b,v=.tuple #[pp b,.nilIface]/\DictAt wx b (sDict l k)) (λ_ _ _ ⟨b,h1,h2⟩ he=>⟨b,h1,h2.ext he⟩)
  ·intro wd hd;(conv=>whnf);rintro v ⟨b,rfl,V⟩;(conv=>whnf);exact⟨xr,b,rfl,V⟩
  (conv=>whnf);apply StepD.of (λv wx=>∃b,v=pp b/\DictAt wx b (sDict l k)) (λ_ _ _ ⟨b,h1,h2⟩ he=>⟨b,h1,h2.ext he⟩)
  ·intro wd hd;(conv=>whnf);rintro v ⟨b,rfl,V⟩;(conv=>whnf);exact⟨xr,b,rfl,V⟩
  (conv=>whnf);apply zsd .nilIface
  ·intro wd hd;conv=>whnf
   repeat(rintro v ⟨b,rfl,V⟩;(conv=>whnf))
   exact xq
  (conv=>whnf);apply StepD.of (λv wx=>∃b,v=pp b/\DictAt wx b (sDict l k)) (λ_ _ _ ⟨b,h1,h2⟩ he=>⟨b,h1,h2.ext he⟩)
  ·intro wd hd;conv=>whnf
   repeat(rintro v ⟨b,rfl,V⟩;(conv=>whnf))
   exact⟨xr,_,rfl,by assumption⟩
  (conv=>whnf);apply zsd .nilIface
  ·intro wd hd;conv=>whnf
   repeat(rintro v ⟨b,rfl,V⟩;(conv=>whnf))
   exact xq
  (conv=>whnf);intro az ae;have H:=H.drew.call ae;have V:=λj Z=>(V j Z).ext ((Ext.refl ai).drew.trans ae)
  clear ae;(conv=>whnf);rintro v ⟨b,rfl,aa⟩;conv=>whnf
  repeat(rintro v ⟨_,rfl,_⟩;(conv=>whnf))
  refine⟨λpb am a0 aj=>?_⟩;have ak:Ext az am:=by rw[aj];exact xr.alloc _
  have H:=H.new a0 aj;have V:=λj Z=>(V j Z).ext ak
  have aa:=aa.ext ak;clear ak aj a0;(conv=>whnf);refine zcv (qrs _ am) ?_;rintro r bk ⟨rfl,rfl⟩;refine zu ?_;refine DrawV.inv (λS w'=>Mem w w' [(pb,.cells #[.pointer none] 123),(vb,.cells (bif S 12 then fnA 7 (updF (updF (vF d l k) (2*k) (pp b)) (2*k+1) (ii (vTot l k+1:Nat)))else fnA 7 (vF d l k)) 305),(W,.cells (fnA 3 (inF (P))) 113),(sz,.cells (fnA 3 (inF (Q))) 113),(cb,curO 367 (.slice A l.length c) (vAt l 3) 0),(r5,.cells (fnA 3 (inF (λ_:Nat=>(0:Int)))) 113)]/\(∀j,j<k->DictAt w' (d j) (sDict l j))/\DictAt w' b (sDict l k)) rfl Jk ⟨H.drew,λj Z=>(V j Z).ext xr.drew,aa.ext xr.drew⟩ ?_;have bl:=aa.n;have bm:vTot l k<=8388608:=by
   rcases(show k=0\/k=1\/k=2 by omega)with rfl|rfl|rfl
   ·exact Ag _
   ·have h0:=(V 0 Oo).n;simp only[vTot];omega
   ·have h0:=(V 0 Oo).n;have h1:=(V 1 Oo).n;simp only[vTot];omega
  clear H V aa;(conv=>whnf);(iterate 6 (refine zi ?_));refine StepI.of (ii (vTot l k:Nat)) (λS wd hk hp U=>zw ?_) (zw ?_)
  ·dsimp only at U;cases an:S 12
   ·rw[an]at U;refine LoadV.fn (v:=ii (vTot l k:Nat)) U.1 (i:=1) rfl 6 rfl Oo rfl (zw ?_);exact⟨rfl,by show Mem _ _ [_,(vb,.cells (bif S 12 then _ else _) _ _),_,_,_,_]/\_;rw[an];exact U⟩
   ·rw[an]at U;refine LoadV.fn (v:=ii (vTot l k:Nat)) U.1 (i:=1) rfl 6 rfl Oo (by rw[qac _ _ _ _ Oo,qac _ _ _ _ Oo];rfl) (zw ?_);exact⟨rfl,by show Mem _ _ [_,(vb,.cells (bif S 12 then _ else _) _ _),_,_,_,_]/\_;rw[an];exact U⟩
  (iterate 5 (refine zi ?_));refine StepI.of undef (λS wd hk hp U=>?_) (zw ?_)
  ·dsimp only at U;rw[hk]at U;(conv=>whnf);have hx:=U.1.get (zmc mh);refine StoreA.row U.1 (i:=1) rfl (by rw[show tsz Eg 302=2 from by kernel_rfl];simp[qaq];omega) (by simp[Value.oneCell']) ?_;intro wx af _ ad;have ad:Mem w wx [(pb,.cells #[.pointer none] 123),(vb,.cells (fnA 7 (updF (updF (vF d l k) (2*k) (pp b)) (2*k+1) (ii (vTot l k+1:Nat)))) 305),(W,.cells (fnA 3 (inF (P))) 113),(sz,.cells (fnA 3 (inF (Q))) 113),(cb,curO 367 (.slice A l.length c) (vAt l 3) 0),(r5,.cells (fnA 3 (inF (λ_:Nat=>(0:Int)))) 113)]:=by
    have e:=q9k 7 (vF d l k) (2*k) (pp b) (ii (vTot l k+1:Nat)) Oo;rw[<-e];have e2:0+0+k*tsz Eg 302=2*k:=by rw[show tsz Eg 302=2 from by kernel_rfl];omega
    rw[<-e2];exact ad
   (conv=>whnf);refine⟨rfl,ad,λj Z=>(U.2.1 j Z).other hx Od ?_ af,U.2.2.other hx Od ?_ af⟩
   all_goals
    intro v hv c;obtain⟨m,a1,rfl⟩:=AF.1 (show v∈(List.range 7).map (vF d l k)from hv);exact qadv d l k m c
  intro a7 U;obtain⟨H,V,aa⟩:=U;have H:Mem w a7 [(pb,.cells #[.pointer none] 123),(vb,.cells (fnA 7 (updF (updF (vF d l k) (2*k) (pp b)) (2*k+1) (ii (vTot l k+1:Nat)))) 305),(W,.cells (fnA 3 (inF (P))) 113),(sz,.cells (fnA 3 (inF (Q))) 113),(cb,curO 367 (.slice A l.length c) (vAt l 3) 0),(r5,.cells (fnA 3 (inF (λ_:Nat=>(0:Int)))) 113)]:=H;(conv=>whnf);refine DrawV.inv (λS w'=>((S 6=true->S 3=true)/\(S 9=true->S 3=true))/\Mem w w' [(pb,.cells #[.pointer none] 123),(vb,.cells (bif S 9 then fnA 7 (updF (updF (updF (vF d l k) (2*k) (pp b)) (2*k+1) (ii (vTot l k+1:Nat))) 6 (ii (vTot l (k+1):Nat)))else fnA 7 (updF (updF (vF d l k) (2*k) (pp b)) (2*k+1) (ii (vTot l k+1:Nat)))) 305),(W,.cells (fnA 3 (inF (P))) 113),(sz,.cells (fnA 3 (inF (Q))) 113),(cb,curO 367 (.slice A l.length c) (vAt l 3) 0),(r5,.cells (fnA 3 (inF (λ_:Nat=>(0:Int)))) 113)]/\(∀j,j<k->DictAt w' (d j) (sDict l j))/\DictAt w' b (sDict l k)) rfl Jk ⟨⟨λh=>(by cases h),λh=>(by cases h)⟩,H.drew,λj Z=>(V j Z).ext xr.drew,aa.ext xr.drew⟩ ?_;clear H V aa;have av:vTot l (k+1)=vTot l k+dN (sDict l k):=rfl;(conv=>whnf);(iterate 3 (refine zi ?_));refine StepI.of (ii (vTot l k:Nat)) (λS wd hk hp U=>zw ?_) (zw ?_)
  ·have h9:S 9=false:=by
    cases h:S 9
    ·rfl
    ·have:=U.1.2 h;rw[hk]at this;cases this
   have ah:=U.2.1;rw[h9]at ah;refine LoadV.fn (v:=ii (vTot l k:Nat)) ah (i:=1) rfl 6 rfl Oo (by rw[qac _ _ _ _ Oo,qac _ _ _ _ Oo];rfl) (zw ?_);exact⟨rfl,⟨λ_=>rfl,λ_=>rfl⟩,U.2⟩
  refine zi ?_;refine StepI.of (ii (dN (sDict l k):Nat)) (λS wd hk hp U=>zw ?_) (zw ?_)
  ·refine zcv (qxt b (sDict l k) wd U.2.2.2) ?_;rintro r a2 ⟨rfl,rfl⟩;exact⟨rfl,U⟩
  refine StepI.of (ii (vTot l (k+1):Nat)) (λS wd hk hp U=>zw ?_) (zw ?_)
  ·refine Obl.mk ⟨by omega,by omega⟩ (zw ?_);exact⟨rfl,⟨λ_=>hp 3 Od,U.1.2⟩,U.2⟩
  refine zi ?_;refine zi ?_;refine StepI.of undef (λS wd hk hp U=>?_) (zw ?_)
  ·have h6:=hp 6 Od;obtain⟨a3,ah,a8,a9⟩:=U;rw[hk]at ah;(conv=>whnf);have hx:=ah.get (zmc mh);refine StoreV.row ah (i:=1) rfl (by simp[qaq]) rfl ?_;intro wx af _ ad;have ad:Mem w wx [(pb,.cells #[.pointer none] 123),(vb,.cells (fnA 7 (updF (updF (updF (vF d l k) (2*k) (pp b)) (2*k+1) (ii (vTot l k+1:Nat))) 6 (ii (vTot l (k+1):Nat)))) 305),(W,.cells (fnA 3 (inF (P))) 113),(sz,.cells (fnA 3 (inF (Q))) 113),(cb,curO 367 (.slice A l.length c) (vAt l 3) 0),(r5,.cells (fnA 3 (inF (λ_:Nat=>(0:Int)))) 113)]:=by
    rw[<-qhf];exact ad
   (conv=>whnf);refine⟨rfl,⟨a3.1,λ_=>a3.1 h6⟩,ad,λj Z=>(a8 j Z).other hx Od ?_ af,a9.other hx Od ?_ af⟩
   all_goals
    intro v hv c;obtain⟨m,a1,rfl⟩:=AF.1 (show v∈(List.range 7).map (updF (updF (vF d l k) (2*k) (pp b)) (2*k+1) (ii (vTot l k+1:Nat)))from hv);unfold updF
    split
    ·intro e;cases e
    split
    ·intro e;cases e
    exact qadv d l k m c
  intro a2 U;obtain⟨_,H,V,aa⟩:=U;have H:Mem w a2 [(pb,.cells #[.pointer none] 123),(vb,.cells (fnA 7 (updF (updF (updF (vF d l k) (2*k) (pp b)) (2*k+1) (ii (vTot l k+1:Nat))) 6 (ii (vTot l (k+1):Nat)))) 305),(W,.cells (fnA 3 (inF (P))) 113),(sz,.cells (fnA 3 (inF (Q))) 113),(cb,curO 367 (.slice A l.length c) (vAt l 3) 0),(r5,.cells (fnA 3 (inF (λ_:Nat=>(0:Int)))) 113)]:=H;rw[qah7 d l k b Oo]at H;have H:=H.sub (AS ..);refine zu ?_;refine⟨(k+1,λj=>if j=k then b else d j),fq,⟨by simp only;omega,λj Z=>?_,H⟩,by simp only;omega⟩;simp only at Z|-
  by_cases e:j=k
  ·subst e;rw[Ad rfl];exact aa
  ·rw[Aa e];exact V j Oo
 obtain rfl:k=3:=by omega
 refine DrawV.inv (λS w'=>Mem w w' [(vb,.cells (fnA 7 (vF (d) l (3))) 305),(W,.cells (fnA 3 (inF (P))) 113),(sz,.cells (fnA 3 (inF (Q))) 113),(cb,curO 367 (.slice A l.length c) (vAt l 3) 0),(r5,.cells (bif S 3 then fnA 3 (inF P)else fnA 3 (inF λ_:Nat=>(0:Int))) 113)]/\∀j,j<3->DictAt w' (d j) (sDict l j)) rfl Jk ⟨H.drew,λj Z=>(V j Z).ext xr.drew⟩ ?_;clear H V;(conv=>whnf);refine zi ?_;refine StepI.of (.agg (fnA 3 (inF P))) (λS wd hk hp U=>zw ?_) (zw ?_)
 ·refine LoadA.mem U.1 (i:=1) rfl (by simp[qaq];rfl) (zw ?_);exact⟨rfl,U⟩
 refine zi ?_;refine StepI.of undef (λS wd hk hp U=>?_) (zw ?_)
 ·dsimp only at U;rw[hk]at U;(conv=>whnf);have hx:wd.heap[r5]?=some (.cells (fnA 3 (inF λ_:Nat=>(0:Int))) 113):=U.1.get Js;refine StoreA.row U.1 (i:=4) rfl (by simp[qaq]) (qlz 3 P) λwx af _ ad=>zw ?_;refine⟨rfl,ad,λj Z=>(U.2 j Z).other hx Od ?_ af⟩;intro v hv c;obtain⟨m,a1,rfl⟩:=AF.1 (show v∈(List.range 3).map (inF λ_:Nat=>(0:Int))from hv);intro e;cases e
 refine zi ?_;intro am U;obtain⟨H,V⟩:=U;have H:Mem w am [(vb,.cells (fnA 7 (vF (d) l (3))) 305),(W,.cells (fnA 3 (inF (P))) 113),(sz,.cells (fnA 3 (inF (Q))) 113),(cb,curO 367 (.slice A l.length c) (vAt l 3) 0),(r5,.cells (fnA 3 (inF (P))) 113)]:=H;(conv=>whnf);refine qi (R:=λv w'=>(∃b G,v=.tuple #[pp b,.agg (fnA 3 (inF G)),.nilIface]/\(∀k,k<3->G k=((qr l k:Nat):Int))/\VocAt w' b l)/\Ext w w') (zw ?_);refine LoadA.mem H (i:=4) rfl (by simp[qaq];rfl) (zw ?_);exact⟨⟨vb,P,rfl,λk hk=>hP k hk,d,H.get mh,V⟩,H.ext⟩
theorem qaa6(l:LB)(k:Nat):(sDict l k).length<=l.length:=by
 grind [sDict]
theorem wE_d(h:(wE l).2=0):(sE l).2=0/\∀k,k<3->(dE (sDict l k)).2=0:=by
 have H:(sE l).2=0:=by grind [wE]
 have U:(errF (sdF l) 3).2=0:=by grind [wE]
 exact⟨H,λk V=>by have:=qan U k V;grind [sdF]⟩
theorem q1r(l:LB)(A:oA)(c:Nat)(w:DU)(Z:SlAt encB 1 w A l)(hc:l.length<=c)(hl:l.length<=70368744177664)(hE:(wE l).2=0):
  Gv Eg 95 [.slice A l.length c] w λv w'=>(∃b,v=.tuple #[pp b,.nilIface]/\VocAt w' b l)/\Ext w w':=by
 obtain⟨h0,hd⟩:=wE_d hE;have U:=q9m l A c w Z hc hl h0 164 λk hk w' B c' hx hB V=>(q86 (sDict l k) B c' w' hB V (by have:=qaa6 l k;omega) (hd k hk)).mono λv aa ⟨⟨b,h1,_,h2⟩,W⟩=>⟨⟨b,h1,h2⟩,W⟩
 refine ze Tryz.func95 Tryz.ntmps95 ?_;refine zcv (U) ?_;rintro v w1 ⟨⟨b,G,rfl,ad,hV⟩,W⟩;(conv=>whnf);refine znm (Mem.nil w1) λt5 w2 H=>zw ?_;refine StoreA.all H (i:=0) rfl (by rfl) (qlz 3 G) λw3 H=>zu ?_;exact⟨⟨b,rfl,VocAt.ext hV H.ext⟩,W.trans H.ext⟩
theorem VocAt.cell(h:VocAt w b l):∃d:Nat->Nat,(∀k,k<3->w.cell? ⟨b,2*k,none⟩=some (.pointer (some ⟨d k,0,none⟩))/\w.cell? ⟨b,2*k+1,none⟩=some (ii (vTot l k+1:Nat))/\DictAt w (d k) (sDict l k))/\
  w.cell? ⟨b,6,none⟩=some (ii (vTot l 3:Nat)):=by
 obtain⟨d,H,U⟩:=h;refine⟨d,λk V=>⟨?_,?_,U k V⟩,?_⟩
 ·rw[qa H,qdr 7 _ _ Oo,vF,Aa Oo,Ad Oo,Ad Oo,show 2*k/2=k by omega]
 ·rw[qa H,qdr 7 _ _ Oo,vF,Aa Oo,Ad Oo,Aa Oo,show(2*k+1)/2=k by omega]
 ·rw[qa H,qdr 7 _ _ Oo,vF,Ad rfl]
theorem VocAt.tot(h:VocAt w b l)(U:k<=3):vTot l k<=12582912:=by
 obtain⟨d,_,H⟩:=h;have V:=(H 0 Oo).n;have W:=(H 1 Oo).n;have Z:=(H 2 Oo).n
 rcases(show k=0\/k=1\/k=2\/k=3 by omega)with rfl|rfl|rfl|rfl<;>simp only[vTot]<;>omega
theorem q7q(b:Nat)(l:LB)(id:Nat)(w:DU)(h:VocAt w b l)(hid:id<=16777216):
  Gv Eg 302 [pp b,ii id] w λr w'=>r=ii (if id=0\/vTot l 3<id then -1 else(qce l id:Int))/\Ext w w':=by
 obtain⟨d,H,U⟩:=h.cell;have V:=λk (W:k<=3)=>h.tot W
 refine ze Tryz.func302 Tryz.ntmps302 ?_;refine zC (λ_=>zu ?_) (λ_=>zu ?_)
 ·grind [Ext.refl]
 refine LoadV.of U (zw ?_);refine zt ?_;refine zC (λ_=>zw ?_) (λ_=>zw ?_)
 ·grind [Ext.refl]
 rw[Aa Oo];refine qk (λi:Nat=>[(0,pp b),(1,ii id),(5,ii i)])
  (λi w'=>i<=2/\(∀j,i<j->j<=2->id<=vTot l j)/\w'=w) (λi=>i) 2 fq (by grind) ?_
 rintro i w1 Z ⟨i1,hj,rfl⟩;obtain⟨_,hf,_⟩:=H i Oo;have aa:=V i Oo;refine zu ?_;refine LoadV.of (v:=ii (vTot l i+1:Nat)) ?_ ?_
 ·rw[<-hf]
  congr 2
  rw[show tsz Eg 302=2 from by kernel_rfl]
  grind
 (conv=>whnf);refine zC (λ_=>zu ?_) (λ_=>zu ?_)
 ·have ad:i≠0:=by
   grind [vTot]
  refine⟨i-1,⟨rfl,rfl,?_,trivial⟩,⟨by omega,λj h1 h2=>?_,rfl⟩,by omega⟩
  ·show ii _=ii _
   grind
  grind
 ·refine⟨Ae (Value.int .i64) ?_,xr⟩
  grind [qce]
def qlg(w:DU):Prop:=CellsAt w 2 0 [ii 1,ii 2,ii 3]
noncomputable def qcl(l:LB)(id:Nat):Option TM:=
 if id=0 then some ⟨0,⟨#[]⟩,⟨#[]⟩,⟨#[]⟩⟩else if vTot l 3<id then none else
  match dGet (sDict l (qce l id)) (id-(vTot l (qce l id)+1))with
  | some s=>qhk ((qce l id+1:Nat):Int) s
  | none=>none
def q1l:DZ:=.agg #[ii 0,.string ⟨#[]⟩,.string ⟨#[]⟩,.string ⟨#[]⟩]
noncomputable def qoz(l:LB)(id:Nat):DZ:=
 match qcl l id with
 | some t=>.tuple #[qv t,.bool true]
 | none=>.tuple #[q1l,.bool false]
theorem qrk(H:id≠0)(h:id<=vTot l 3):qce l id<3/\vTot l (qce l id)<id/\id<=vTot l (qce l id+1):=by
 grind [vTot,qce]
theorem q7v(b:Nat)(l:LB)(id:Nat)(w:DU)(h:VocAt w b l)(hid:id<=16777216)(hM:MaxLenAt w)(hT:CellsAt w 4 0 qcb)(hK:qlg w):
  Gv Eg 225 [pp b,ii id] w λr w'=>r=qoz l id/\Ext w w':=by
 refine ze Tryz.func225 Tryz.ntmps225 ?_;refine znm (Mem.nil w) λr4 w1 H=>zw ?_;refine zcv (q7q b l id w1 (h.ext H.ext) hid) ?_;rintro r w2 ⟨rfl,ad⟩;have H:=H.call ad;conv=>whnf
 by_cases h0:id=0\/vTot l 3<id
 ·rw[Ad h0];refine zv ?_;refine zS H 0 λw3 H=>zw ?_;refine qi (R:=λv w'=>v=qoz l id/\Ext w w') (zw ?_);refine zl H 0 ?_;refine⟨?_,H.ext⟩;rw[qoz,qcl]
  by_cases hi:id=0
  ·rw[Ad hi];subst hi;rfl
  ·rw[Aa hi,Ad Oo];show Value.tuple #[_,.bool (decide ((id:Int)=0))]=_;rw[AM Oo];rfl
 ·rw[Aa h0];obtain⟨Z,ae,af⟩:=qrk (l:=l) (id:=id) Oo Oo;have ag:qoz l id=match dGet (sDict l (qce l id)) (id-(vTot l (qce l id)+1))with
   | some s=>(match qhk ((qce l id+1:Nat):Int) s with|some t=>.tuple #[qv t,.bool true]|none=>.tuple #[q1l,.bool false])
   | none=>.tuple #[q1l,.bool false]:=by
   grind [qoz,qcl]
  rw[ag];obtain⟨k,ek⟩:∃k,k=qce l id:=⟨_,rfl⟩
  rw[<-ek]at Z ae af|-;obtain⟨d,hd,hn⟩:=(h.ext H.ext).cell;obtain⟨ah,ai,aj⟩:=hd k Z;have aq:=(h.tot (k:=k) Oo)
  obtain⟨i,ei⟩:∃i,i=id-(vTot l k+1):=⟨_,rfl⟩
  rw[<-ei];refine zv ?_;have hG:∃s ok,qi6 (sDict l k) i=.tuple #[.string s,.bool ok]/\s.size<=262144/\((ok=true/\dGet (sDict l k) i=some s.data.toList)\/(ok=false/\dGet (sDict l k) i=none)):=by
   unfold qi6;cases W:dGet (sDict l k) i with
   | none=>exact⟨_,_,rfl,by decide,Js⟩
   | some s=>exact⟨⟨s.toArray⟩,_,rfl,qku W,Js⟩
  obtain⟨s,ok,ar,ak,V⟩:=hG;refine DrawV.free Jk Jk (zw ?_);(iterate 6 (refine zd ?_));apply zsd (.pointer (some ⟨d k,0,none⟩))
  ·intro wd U;(conv=>whnf);refine LoadV.of (v:=.pointer (some ⟨d k,0,none⟩)) ?_ ?_
   ·have:=((Ext.refl w2).drew.trans U).cell ah;rw[<-this]
    congr 2
    rw[show tsz Eg 302=2 from by kernel_rfl]
    grind
   (conv=>whnf);exact xq
  (conv=>whnf);(iterate 7 (refine zd ?_));apply zsd (ii (vTot l k+1:Nat))
  ·intro wd U;(conv=>whnf);refine LoadV.of (v:=ii (vTot l k+1:Nat)) ?_ ?_
   ·have:=((Ext.refl w2).drew.trans U).cell ai;rw[<-this]
    congr 2
    rw[show tsz Eg 302=2 from by kernel_rfl]
    grind
   (conv=>whnf);exact xq
  (conv=>whnf);apply zsd (ii (i:Nat))
  ·intro wd U;(conv=>whnf);refine Obl.mk ⟨by omega,by omega⟩ (zw ?_)
   grind [Ext.refl]
  (conv=>whnf);apply zsd (.tuple #[.string s,.bool ok])
  ·intro wd U;(conv=>whnf);refine zcv (qxr (d k) (sDict l k) i wd (aj.ext ((Ext.refl w2).drew.trans U)) Oo) ?_
   simp_all
  (conv=>whnf);(iterate 5 (refine zd ?_));intro w3 aa;have H:=H.drew.call aa;clear aa;refine zu ?_;have al:((k+1:Nat):Int)=1\/((k+1:Nat):Int)=2\/((k+1:Nat):Int)=3:=by omega
  refine LoadV.of (v:=ii (k+1:Nat)) ?_ ?_
  ·have au:=λj v (hv:([ii 1,ii 2,ii 3]:Ee)[j]?=some v)=>(CellsAt.ext hK H.ext) j v hv
   rw[show tsz Eg 3=1 from by kernel_rfl]
   grind
  (conv=>whnf);obtain⟨t,e,am,an⟩:∃t e,qha ((k+1:Nat):Int) s.data.toList=.tuple #[qv t,ii (e:Nat)]/\((e=0/\qhk ((k+1:Nat):Int) s.data.toList=some t)\/(e≠0/\qhk ((k+1:Nat):Int) s.data.toList=none)):=by
   unfold qha;cases W:qhk ((k+1:Nat):Int) s.data.toList with
   | none=>exact⟨⟨0,⟨#[]⟩,⟨#[]⟩,⟨#[]⟩⟩,170,rfl,Js⟩
   | some t=>grind
  refine zcv (q7t ((k+1:Nat):Int) al s ak w3 (hM.ext H.ext) (hT.ext H.ext)) ?_;rintro r w4 ⟨rfl,ao⟩;have H:=H.call ao;rw[am];(conv=>whnf);refine znm H λt9 w5 H=>zw ?_;refine zS H 0 λw6 H=>zw ?_
  rcases V with⟨rfl,W⟩|⟨rfl,W⟩
  ·rw[W];dsimp only
   rcases an with⟨rfl,hr⟩|⟨he,hr⟩
   ·rw[hr];refine zv ?_;refine zl H 0 ?_;refine zS H 1 λw7 H=>zw ?_;refine qi (R:=λv w'=>v=.tuple #[qv t,.bool true]/\Ext w w') (zw ?_);refine zl H 1 ?_;exact⟨rfl,H.ext⟩
   ·rw[hr];refine zv ?_;refine zS H 1 λw7 H=>zw ?_;refine qi (R:=λv w'=>v=.tuple #[q1l,.bool false]/\Ext w w') (zw ?_);refine zl H 1 ?_;exact⟨rfl,H.ext⟩
  ·rw[W];dsimp only;refine zv ?_;refine zS H 1 λw7 H=>zw ?_;refine qi (R:=λv w'=>v=.tuple #[q1l,.bool false]/\Ext w w') (zw ?_);refine zl H 1 ?_;exact⟨rfl,H.ext⟩
def zTM:TM:=⟨0,⟨#[]⟩,⟨#[]⟩,⟨#[]⟩⟩
noncomputable def uT(l:LB)(q:Nat->Nat)(j:Nat):TM:=(qcl l (q j)).getD zTM
noncomputable def q4Of(l:LB)(q:Nat->Nat):Q4:=⟨uT l q 1,uT l q 2,uT l q 3,uT l q 0⟩
def zQ:Q4:=⟨zTM,zTM,zTM,zTM⟩
def idsV(q:Nat->Nat):DZ:=.agg #[ii (q 0:Nat),ii (q 1:Nat),ii (q 2:Nat),ii (q 3:Nat)]
open Classical in
noncomputable def qkg(l:LB)(q:Nat->Nat):DZ:=
 if ∀j,j<4->qcl l (q j)≠none then .tuple #[qy (q4Of l q),.bool true]else .tuple #[qy zQ,.bool false]
noncomputable def aT(l:LB)(q:Nat->Nat)(k j:Nat):TM:=if j<k then uT l q j else zTM
noncomputable def arrT(l:LB)(q:Nat->Nat)(k:Nat):Q4:=⟨aT l q k 0,aT l q k 1,aT l q k 2,aT l q k 3⟩
theorem q78(l:LB)(q:Nat->Nat)(k:Nat)(H:k<4):((qf (arrT l q k)).take (k*4)++encT (uT l q k)++(qf (arrT l q k)).drop (k*4+4))=qf (arrT l q (k+1)):=by
 rcases(show k=0\/k=1\/k=2\/k=3 by omega)with rfl|rfl|rfl|rfl<;>rfl
theorem q7r(b:Nat)(l:LB)(q:Nat->Nat)(w:DU)(h:VocAt w b l)(hq:∀j,j<4->q j<=16777216)(hM:MaxLenAt w)(hT:CellsAt w 4 0 qcb)(hK:qlg w):
  Gv Eg 145 [pp b,idsV q] w λr w'=>r=qkg l q/\Ext w w':=by
 unfold idsV;refine ze Tryz.func145 Tryz.ntmps145 ?_;refine znm (Mem.nil w) ?_;intro t3 w1 H;refine znm H ?_;intro r4 w2 H;refine znm H ?_;intro V w3 H;refine zl H 2 ?_;obtain⟨W,U⟩:∃W,W=(t3,Obj.cells #[ii (q 0:Nat),ii (q 1:Nat),ii (q 2:Nat),ii (q 3:Nat)] 95):=⟨_,rfl⟩
 have H:Mem w w3 [(V,.cells (qf (arrT l q 0)).toArray 166),(r4,.cells (qf zQ).toArray 47),W]:=by rw[U];exact H
 clear U;refine qk (λk:Nat=>[(0,pp b),(4,pp r4),(5,.bool false),(6,pp V),(11,.agg #[ii (q 0:Nat),ii (q 1:Nat),ii (q 2:Nat),ii (q 3:Nat)]),(12,ii k)])
  (λk w'=>k<=4/\(∀j,j<k->qcl l (q j)≠none)/\Mem w w' [(V,.cells (qf (arrT l q k)).toArray 166),(r4,.cells (qf zQ).toArray 47),W]) (λk=>4-k) 0
  fq ⟨by omega,λj h=>by omega,H⟩ ?_
 clear H;rintro k w4 af ⟨k1,hj,H⟩;conv=>whnf
 (repeat'(first|refine zp ?_|refine zC (λ_=>zw ?_) (λ_=>zw ?_)|(refine zJ 0 ?_;(conv=>whnf))))
 ·have aa:=hq k Oo;refine⟨ii (q k:Nat),?_,?_⟩
  ·rw[show k*tsz Eg 3=k from by rw[show tsz Eg 3=1 from by kernel_rfl];omega]
   rcases(show k=0\/k=1\/k=2\/k=3 by omega)with rfl|rfl|rfl|rfl<;>rfl
  (conv=>whnf);refine zcv (q7v b l (q k) w4 (h.ext H.ext) aa (hM.ext H.ext) (hT.ext H.ext) (CellsAt.ext hK H.ext)) ?_;rintro r w5 ⟨rfl,ad⟩;have H:=H.call ad;unfold qoz;cases hv:qcl l (q k)with
  | none=>
   dsimp only;have hV:qkg l q=.tuple #[qy zQ,.bool false]:=by rw[qkg,Aa (λh=>h k Oo hv)]
   rw[hV];unfold q1l;refine znm H ?_;intro t9 w6 H;refine zS H 0 λw7 H=>zu ?_;refine zS H 2 ?_;intro w8 H;refine qi (R:=λv w'=>v=.tuple #[qy zQ,.bool false]/\Ext w w') ?_;refine zl H 2 ?_;exact⟨rfl,H.ext⟩
  | some t=>
   dsimp only;have ae:uT l q k=t:=by rw[uT,hv];rfl
   refine znm H ?_;intro t9 w6 H;refine zS H 0 λw7 H=>zu ?_;refine zl H 0 ?_;refine zv ?_;refine StoreA.mem H (i:=1) rfl ?_ (by simp[Value.oneCell']) ?_
   ·rw[show tsz Eg 45=4 from by kernel_rfl];show 0+k*4+4<=16;omega
   intro w8 H;refine zu ?_;refine⟨k+1,fq,⟨by omega,λj ag=>?_,?_⟩,by omega⟩
   ·by_cases e:j=k
    ·subst e;rw[hv];simp
    ·exact hj j Oo
   ·have H:=H.sub (AS ..);have e:=q78 l q k Oo;rw[ae]at e;rw[<-e];rw[show tsz Eg 45=4 from by kernel_rfl,As]at H;exact H
 obtain rfl:k=4:=by omega
 have hV:qkg l q=.tuple #[qy (q4Of l q),.bool true]:=by rw[qkg,Ad hj]
 rw[hV];have Z:CellsAt w4 V 0 (qf (arrT l q 4)):=CellsAt.mem H mh;refine LoadA.cells (qm Z 0 Oo) rfl (zw ?_);refine zJ 1 ?_;(conv=>whnf);refine LoadA.cells (qm Z 1 Oo) rfl (zw ?_);refine zJ 2 ?_;(conv=>whnf);refine LoadA.cells (qm Z 2 Oo) rfl (zw ?_);refine zJ 3 ?_;(conv=>whnf);refine LoadA.cells (qm Z 3 Oo) rfl ?_;refine zS H 1 ?_;intro w8 H;refine qi (R:=λv w'=>v=.tuple #[qy (q4Of l q),.bool true]/\Ext w w') ?_;refine zl H 1 ?_;exact⟨rfl,H.ext⟩
theorem VocAt.other{x:Nat}{t:DX}(h:VocAt w b l)(W:w.heap[x]?=some (.cells cs t fz))(ht:t≠395)(U:t≠305)(hc:∀v∈cs.toList,∀c:Nat,v≠.int .u8 c)(Z:∀c,c≠x->w'.heap[c]?=w.heap[c]?):VocAt w' b l:=by
 obtain⟨d,H,h2⟩:=h;have V:b≠x:=by
  intro e;subst e;rw[W]at H
  injection H with H
  injection H with _ H _
  exact U H
 exact⟨d,by rw[Z b V];exact H,λk hk=>(h2 k hk).other W ht hc Z⟩
theorem TreeAt.other{x:Nat}{v:DZ}(h:TreeAt w b l)(hx:w.heap[x]?=some (.cells #[v] 38 fz))(hv:∀(k:IntKind) (c:Int),v≠.int k c)(hw:∀c,c≠x->w'.heap[c]?=w.heap[c]?):TreeAt w' b l:=by
 have U:∀(z:LB),∀y∈z,∀u∈(#[v]:Eh).toList,(encB y)[0]?≠some u:=λz y _ u hu e=>by
  simp only[AB,BQ,or_false]at hu;subst hu;cases e;exact hv _ _ rfl
 refine⟨λk hk=>?_,h.n,h.wd⟩;obtain⟨P,cp,S,cs,V,h1,h2,h3,h4,W⟩:=h.lv k hk;refine⟨P,cp,S,cs,V,h1.other ?_ hw,h2.other hx (U _) (λ_ _ e=>by cases e) hw,h3.other hx (U _) (λ_ _ e=>by cases e) hw,h4,?_⟩
 ·intro e;have h6:=h1 0 _ rfl;rw[e,qa hx]at h6;have Z:(#[v]:Eh)[8*k+0]?=some (ii (vNum l k)):=h6
  rcases B9 k with rfl|aa
  ·exact hv _ _ (Bb Z)
  ·rw[CQ Ys]at Z;cases Z
 ·rcases W with W|⟨W,h6,vb,Z,H⟩
  ·exact .inl W
  ·refine .inr ⟨W,h6,vb,Z,?_⟩;rw[hw vb ?_]
   ·exact H
   ·intro e;subst e;rw[hx]at H
    injection H with H
    injection H with _ H _
    exact absurd H Od
theorem qj9(V H:Nat)(W:Mem w0 w ((V,.cells #[.nilIface] 38)::M)):
  GvD Eg 232 [pp V,ii H] w λw'=>Ext w w':=by
 refine gvD Jk Tryz.func232 rfl Tryz.ntmps232 rfl (zw ?_);refine znm (Mem.nil w) ?_;intro t4 Z U;refine LoadV.mem (W.call U.ext) (i:=0) rfl rfl (zw ?_);refine zcv (qrs _ Z) ?_;rintro r w2 ⟨rfl,rfl⟩;refine zu ?_;exact U.ext
theorem qz7(fb n cc H:Nat)(W:oA)(w:DU)(h1:w.cell? ⟨fb,4,none⟩=some (.slice W n cc))(h2:w.cell? ⟨fb,6,none⟩=some (ii H))(_:H<=1152921504606846976)(f:FuncId)(V:Nat->Ec)(af:∀b w w',V b w->Ext w w'->V b w')(ag:∀(b:Nat) (w w':DU) (x:Nat) (fz:Nat×Nat),V b w->w.heap[x]?=some (.cells #[.nilIface] 38 fz)->(∀c,c≠x->w'.heap[c]?=w.heap[c]?)->V b w')(hf:∀w',Ext w w'->Gv Eg f [.slice W n cc] w' λv aa=>(∃b,v=.tuple #[pp b,.nilIface]/\V b aa)/\Ext w' aa):
  Gv Eg 161 [pp fb,.func (.func f) #[] #[]] w λv w'=>(∃b,v=.tuple #[pp b,.nilIface]/\V b w')/\Ext w w':=by
 refine gvW Jk Tryz.func161 rfl Tryz.ntmps161 rfl (zw ?_);refine znm (Mem.nil w) ?_;intro c5 w1 Z;refine LoadV.of (v:=ii H) (Z.ext.cell h2) ?_;refine LoadV.of (v:=.slice W n cc) (Z.ext.cell h1) (zw ?_);refine zcv (hf w1 Z.ext) ?_;rintro v w2 ⟨⟨b,rfl,hb⟩,ah⟩;have Z:=Z.call ah;refine StoreV.row Z (i:=0) rfl Js rfl ?_;intro w3 ai _ U;have hb:=ag b w2 w3 c5 (0,0) hb (Z.get mh) ai;have U:Mem w w3 ((c5,.cells #[.nilIface] 38)::[]):=U;refine LeaveV.call ((qj9 c5 H U).mono λw4 ad=>?_);have ae:=U.call ad;refine qi (R:=λv w'=>(∃b,v=.tuple #[pp b,.nilIface]/\V b w')/\Ext w w') ?_;refine zr ae 0 ?_;exact⟨⟨b,rfl,af _ _ _ hb ad⟩,ae.ext⟩
theorem q3j(fb n cc H:Nat)(W:oA)(w:DU)(h1:w.cell? ⟨fb,5,none⟩=some (.slice W n cc))(h2:w.cell? ⟨fb,7,none⟩=some (ii H))(_:H<=1152921504606846976)(f:FuncId)(V:Nat->Ec)(af:∀b w w',V b w->Ext w w'->V b w')(ag:∀(b:Nat) (w w':DU) (x:Nat) (fz:Nat×Nat),V b w->w.heap[x]?=some (.cells #[.nilIface] 38 fz)->(∀c,c≠x->w'.heap[c]?=w.heap[c]?)->V b w')(hf:∀w',Ext w w'->Gv Eg f [.slice W n cc] w' λv aa=>(∃b,v=.tuple #[pp b,.nilIface]/\V b aa)/\Ext w' aa):
  Gv Eg 162 [pp fb,.func (.func f) #[] #[]] w λv w'=>(∃b,v=.tuple #[pp b,.nilIface]/\V b w')/\Ext w w':=by
 refine gvW Jk Tryz.func162 rfl Tryz.ntmps162 rfl (zw ?_);refine znm (Mem.nil w) ?_;intro c5 w1 Z;refine LoadV.of (v:=ii H) (Z.ext.cell h2) ?_;refine LoadV.of (v:=.slice W n cc) (Z.ext.cell h1) (zw ?_);refine zcv (hf w1 Z.ext) ?_;rintro v w2 ⟨⟨b,rfl,hb⟩,ah⟩;have Z:=Z.call ah;refine StoreV.row Z (i:=0) rfl Js rfl ?_;intro w3 ai _ U;have hb:=ag b w2 w3 c5 (0,0) hb (Z.get mh) ai;have U:Mem w w3 ((c5,.cells #[.nilIface] 38)::[]):=U;refine LeaveV.call ((qj9 c5 H U).mono λw4 ad=>?_);have ae:=U.call ad;refine qi (R:=λv w'=>(∃b,v=.tuple #[pp b,.nilIface]/\V b w')/\Ext w w') ?_;refine zr ae 0 ?_;exact⟨⟨b,rfl,af _ _ _ hb ad⟩,ae.ext⟩
theorem q5s(l:LB)(A B:oA)(w:DU)(f1 f2:FuncId)(H U:Nat->Ec)(V:∀b w w',H b w->Ext w w'->H b w')(ad:∀(b:Nat) (w w':DU) (x:Nat) (fz:Nat×Nat),H b w->w.heap[x]?=some (.cells #[.nilIface] 38 fz)->(∀c,c≠x->w'.heap[c]?=w.heap[c]?)->H b w')(aa:∀b w w',U b w->Ext w w'->U b w')(ae:∀(b:Nat) (w w':DU) (x:Nat) (fz:Nat×Nat),U b w->w.heap[x]?=some (.cells #[.nilIface] 38 fz)->(∀c,c≠x->w'.heap[c]?=w.heap[c]?)->U b w')(ai:∀w',Ext w w'->Gv Eg f1 [.slice A (hN l 4) (hN l 4)] w' λv W=>(∃b,v=.tuple #[pp b,.nilIface]/\H b W)/\Ext w' W)(aj:∀w',Ext w w'->Gv Eg f2 [.slice B (hN l 5) (hN l 5)] w' λv W=>(∃b,v=.tuple #[pp b,.nilIface]/\U b W)/\Ext w' W):
  Gv Eg 94 [.agg (okF l A B).toArray,.func (.func f1) #[] #[],.func (.func f2) #[] #[]] w λv w'=>(∃b vb tb,v=.tuple #[pp b,.nilIface]/\
   w'.heap[b]?=some (.cells #[ii (hN l 2),ii (hN l 3),ii (hN l 4),ii (hN l 5),pp vb,pp tb] 241)/\H vb w'/\U tb w')/\Ext w w':=by
 have h4:=q9q l 4;refine ze Tryz.func94 Tryz.ntmps94 ?_;refine znm (Mem.nil w) ?_;intro fb w1 Z;have hg:=Z.get mh;(conv=>whnf);refine zcv (qz7 fb (hN l 4) (hN l 4) 28 A w1 (by rw[qa hg];rfl) (by rw[qa hg];rfl) Oo f1 H V ad (λw' he=>ai w' (Z.ext.trans he))) ?_;rintro v w2 ⟨⟨vb,rfl,hv⟩,ak⟩;replace Z:=Z.call ak;have hg:=Z.get mh;refine zu ?_;refine zcv (q3j fb (hN l 5) (hN l 5) (32+hN l 4) B w2 (by rw[qa hg];rfl) (by rw[qa hg];rfl) Oo f2 U aa ae (λw' he=>aj w' (Z.ext.trans he))) ?_;rintro v w3 ⟨⟨tb,rfl,ht⟩,af⟩;replace Z:=Z.call af;have hv:=V _ _ _ hv af;refine zu ?_;have al:CellsAt w3 fb 0 [ii (hN l 2:Nat),ii (hN l 3:Nat),ii (hN l 4:Nat),ii (hN l 5:Nat)]:=λk v hv=>by
  have hk:k<4:=(Af.1 hv).1;refine CellsAt.mem Z mh k v ?_
  rcases(show k=0\/k=1\/k=2\/k=3 by omega)with rfl|rfl|rfl|rfl<;>exact hv
 refine LoadA.cells al rfl (zw ?_);refine⟨λb w4 hb hw=>?_⟩;have ag:Ext w3 w4:=by rw[hw];exact xr.alloc _
 have ah:=Z.new hb hw;(conv=>whnf);exact⟨⟨b,vb,tb,rfl,ah.get mh,V _ _ _ hv ag,aa _ _ _ ht ag⟩,ah.ext⟩
end Go.Proofs.YtccmcfpmknpccaaGreatDoor
