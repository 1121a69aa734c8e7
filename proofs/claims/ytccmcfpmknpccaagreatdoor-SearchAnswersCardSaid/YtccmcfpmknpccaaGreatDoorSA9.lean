/- Lemmas and contracts of functions on the way to the law's card (part 9 of 20). -/
import Derived.Test.YtccmcfpmknpccaaGreatDoorSA8
import Derived.TacticsIn
import Derived.RangeFuncSeq
import Derived.RangeFuncLeaves
namespace Go.Proofs.YtccmcfpmknpccaaGreatDoor
set_option maxHeartbeats 8000000
open Go.RowKit
variable {b b' base c d i id j k m most wd:Nat} {P:DW} {f gf:FuncId} {args:Eh} {w w' w0:DU} {ρ:Eb} {K R:Ea} {o oj:Oper} {ds:Ei} {ops:Array Oper} {Q':Exit->Act->Ec} {assign body:Code} {lb vs xs:Ee} {J:Ed->Ec} {L M:Ed} {ahead l:LB} {A:oA} {e:DX}
namespace V
def Fr(r:Option Nat):Fence:={ fn:=λ_=>True,depth:=none,alive:=false,round:=r }
theorem qdf{r:Option Nat}{R:Ending->Ec}:CallsIn (Fr r) m P f args w R↔Calls P f args w R:=by
 show CallsIn Fence.wide m P f args w R↔_;exact callsIn_wide
def Sw(n:Nat)(ρ:Eb)(a:Act):Prop:=St n ρ { a with defers:=[] }
theorem Sw.eval{n:Nat}{a:Act}(h:Sw n ρ a):a.eval=ev ρ:=by
 have:=St.eval h;rw[<-this];rfl
theorem Sw.put{n:Nat}{a:Act}(h:Sw n ρ a)(ds:Ei){H:Option Tmp}{v:DZ}{K:Eb->Prop}(W:putV n H ρ v K):
  ∃U,Sw n U ({ a with defers:=ds }.put H v)/\({ a with defers:=ds }.put H v).defers=ds/\K U:=by
 obtain⟨U,Z,h2⟩:=putV.st W h;refine⟨U,?_,?_,h2⟩
 ·cases H<;>exact Z
 ·cases H<;>rfl
theorem Sw.st{n:Nat}{a:Act}(h:Sw n ρ a)(U:a.defers=[]):St n ρ a:=by
 have:a={ a with defers:=[] }:=by cases a;cases U;rfl
 rw[this];exact h
theorem St.sw{n:Nat}{a:Act}(h:St n ρ a):Sw n ρ a:=by
 have:a={ a with defers:=[] }:=by have:=h.defers;cases a;cases this;rfl
 grind [Sw]
structure YieldV(P:DW)(l:Nat)(args:Ee)(w:DU)(K:Ea):Prop where
 h:YieldAt (Fr none) 0 P l args.toArray w λe w'=>∃v,e=.returned v/\K v w'
theorem YieldV.mono{l:Nat}{args:Ee}{V:Ea}(h:YieldV P l args w K)(hk:∀v w',K v w'->V v w'):YieldV P l args w V:=by
 obtain⟨W,H,U,b,Z,h2⟩:=h.h;exact⟨⟨W,H,U,b,Z,h2.mono (by grind)⟩⟩
def qaek(P:DW)(c:Call)(V:DX)(ρ:Eb)(w:DU)(s:Sem Next)(K:Ea):Prop:=
 match c.callee with
 | .value f=>match ev ρ f with
  | .func (.yield l) first H=>match first.toList,H.toList with
   | [],[]=>qcn (evs ρ c.args.toList) λvs=>YieldV P l vs w K
   | _,_=>False
  | .func (.func g) first H=>qcn (evs ρ c.args.toList) λvs=>
   match first.toList,H.toList with
   | [],[]=>CallV P g vs w K
   | x,y=>CallV P g (x++(vs++y)) w K
  | _=>Fall P s w K
 | .builtin .len=>lenV P (getL c.argTypes.toList 0) (evs ρ c.args.toList) w s K
 | .builtin .append=>appV P c.argTypes V (evs ρ c.args.toList) w s K
 | .invoke U name=>match ev ρ U with
  | .iface t v=>qcn (evs ρ c.args.toList) λvs=>InvV P t v name vs w K
  | _=>Fall P s w K
 | _=>Fall P s w K
def defW(c:Call)(ρ:Eb)(K:Deferred->Prop):Prop:=
 match c.callee with
 | .value f=>match ev ρ f with
  | .func (.func g) first H=>match first.toList,H.toList with
   | [],[]=>qcn (evs ρ c.args.toList) λvs=>K { target:=.fn (.func g) #[],args:=vs.toArray }
   | _,_=>False
  | _=>False
 | _=>False
def opW(P:DW)(r:Option Nat)(o:Oper)(ρ:Eb)(ds:Ei)(w:DU)(K:DZ->Ei->Ec):Prop:=
 match o.op with
 | .call c=>qaek P c o.type ρ w (execOp (ev ρ) o) λv w'=>K v ds w'
 | .defer c=>match r with
  | none=>defW c ρ λd=>K undef (d::ds) w
  | some _=>False
 | _=>opV P o ρ w λv w'=>K v ds w'
section
variable {P:DW} {n:Nat} {r:Option Nat}
theorem q8o{c:Call}(Z:o.op=.call c)(h:qaek P c o.type ρ w (execOp (ev ρ) o) K):
  OpOk P (execOp (ev ρ) o) w K\/∃l f H V b,(execOp (ev ρ) o).run P w=.ok (.round l f H V b) w/\RoundIn (Fr none) 0 P l f H V b w λe w'=>∃v,e=.returned v/\K v w':=by
 have W:q2d P c o.type ρ w (execOp (ev ρ) o) K->OpOk P (execOp (ev ρ) o) w K:=qxg Z;unfold qaek at h;unfold q2d at W
 split at h
 ·rename_i f hc
  simp only[hc]at W
  split at h
  ·rename_i l first U hf
   split at h
   ·rename_i h1 h2
    rw[qao]at h;obtain⟨f',H,V,b,hy,hR⟩:=h.h;refine .inr ⟨l,f',H,V,b,?_,hR⟩;have e1:first=#[]:=by simp_all
    have e2:U=#[]:=by simp_all
    subst e1 e2;rw[qef]at hy;have e3:(c.args.toList.map (ev ρ)).toArray=c.args.map (ev ρ):=by grind
    grind [execOp,resolve,Deferred.ofValue,invoke]
   ·exact h.elim
  all_goals grind
 all_goals grind
theorem qadd{K:DZ->Ei->Ec}{a:Act}{next:Act->Ec}{Q:Exit->Act->Ec}(ha:Sw n ρ a)(hd:a.defers=ds)(h:opW P r o ρ ds w K)(hn:∀v aa w',K v aa w'->next ({ a with defers:=aa }.put o.dst v) w'):o.wpIn (Fr r) 0 P a w next Q:=by
 refine⟨λ_ _=>trivial,?_⟩;have ag:({ a with defers:=ds }:Act)=a:=by subst hd;rfl
 have Z:∀v w',K v ds w'->next (a.put o.dst v) w':=(by grind)
 rw[ha.eval];unfold opW at h
 split at h
 ·rename_i c ho
  rw[Oper.semAt_eq _ _ _ (by intro c' e;rw[ho]at e;cases e)]
  rcases q8o ho h with((⟨v,w',U,H⟩|⟨w',U,H⟩)|⟨f,args,U,H⟩)|⟨l,f,ad,ae,b,U,H⟩
  ·rw[U];exact Z _ _ H
  ·rw[U];exact Z _ _ H
  ·rw[U,Oper.uponIn_enter];refine⟨(by grind [Fr]),qdf.2 (H.mono λe w' ⟨v,he,hk⟩=>?_)⟩
   simp_all
  ·rw[U,Oper.uponIn_round];refine⟨(by grind [Fr]),?_⟩;have H:RoundIn (Fr r) 0 P l f ad ae b w _:=H;refine H.mono λe w' ⟨v,he,hk⟩=>?_
   simp_all
 ·rename_i c ho
  split at h
  ·unfold defW at h
   split at h
   ·rename_i f hc
    split at h
    ·rename_i g first V hf
     split at h
     ·rename_i U H
      rw[qao]at h;have e1:first=#[]:=by simp_all
      have e2:V=#[]:=by simp_all
      subst e1 e2;rw[qef]at h;have e3:(c.args.toList.map (ev ρ)).toArray=c.args.map (ev ρ):=by grind
      simp_all[Oper.semAt_none,execOp,resolve,Deferred.ofValue,Fr,Oper.uponIn_defer]
     ·exact h.elim
    ·exact h.elim
   ·exact h.elim
  ·exact h.elim
 ·rename_i ah af
  rw[Oper.semAt_eq _ _ _ (λc e=>af c e)]
  rcases q5i h with(⟨v,w',U,H⟩|⟨w',U,H⟩)|⟨f,args,U,H⟩
  ·rw[U];exact Z _ _ H
  ·rw[U];exact Z _ _ H
  ·rw[U,Oper.uponIn_enter];refine⟨(by grind [Fr]),qdf.2 (H.mono λe w' ⟨v,he,hk⟩=>?_)⟩
   simp_all
end
def runW(P:DW)(n:Nat)(r:Option Nat)(o:Oper)(K:Eb->Ei->Ec)(ρ:Eb)(ds:Ei)(w:DU):Prop:=
 opW P r o ρ ds w λv H w'=>putV n o.dst ρ v λU=>K U H w'
def qv5(n:Nat)(o:Oper)(K:Eb->Ei->Ec)(ρ:Eb)(ds:Ei)(w:DU):Prop:=
 putV n o.dst ρ undef λH=>K H ds w
def regW(P:DW)(n:Nat)(r:Option Nat)(ops:List Oper)(Q:Eb->Ei->Ec):List Oper->Eb->Ei->DU->Prop
 | [],ρ,ds,w=>Q ρ ds w
 | o::H,ρ,ds,w=>
  match o.guard with
  | none=>runW P n r o (regW P n r ops Q H) ρ ds w
  | some (j,U)=>
   match getL ops j with
   | none=>qv5 n o (regW P n r ops Q H) ρ ds w
   | some oj=>match oj.dst with
    | none=>qv5 n o (regW P n r ops Q H) ρ ds w
    | some d=>bif Nat.blt d n then
      match ρ d with
      | .bool b=>Tst b
        (match U with
         | true=>runW P n r o (regW P n r ops Q H) (upd ρ d (.bool true)) ds w
         | false=>qv5 n o (regW P n r ops Q H) (upd ρ d (.bool true)) ds w)
        (match U with
         | true=>qv5 n o (regW P n r ops Q H) (upd ρ d (.bool false)) ds w
         | false=>runW P n r o (regW P n r ops Q H) (upd ρ d (.bool false)) ds w)
      | _=>qv5 n o (regW P n r ops Q H) ρ ds w
     else False
abbrev QW:=Exit->Eb->Ei->DU->Prop
def seqW(K:Eb->Ei->Ec)(Q:QW):QW
 | .normal,ρ,ds,w=>K ρ ds w
 | .exit i,ρ,ds,w=>Q (.exit i) ρ ds w
 | .goto l,ρ,ds,w=>Q (.goto l) ρ ds w
 | .ret,ρ,ds,w=>Q .ret ρ ds w
 | .panic c,ρ,ds,w=>Q (.panic c) ρ ds w
 | .outgrown,ρ,ds,w=>Q .outgrown ρ ds w
def qxc(id:Nat)(Q:QW):QW
 | .normal,ρ,ds,w=>Q .normal ρ ds w
 | .exit i,ρ,ds,w=>bif Nat.beq i id then Q .normal ρ ds w else Q (.exit i) ρ ds w
 | .goto l,ρ,ds,w=>Q (.goto l) ρ ds w
 | .ret,ρ,ds,w=>Q .ret ρ ds w
 | .panic c,ρ,ds,w=>Q (.panic c) ρ ds w
 | .outgrown,ρ,ds,w=>Q .outgrown ρ ds w
def qfk(n:Nat)(Q:QW):Exit->Act->DU->Prop:=λe a w=>∃ρ,Sw n ρ a/\Q e ρ a.defers w
structure LoopW(P:DW)(n:Nat)(r:Option Nat)(body:Code)(Q:QW)(ρ:Eb)(ds:Ei)(w:DU):Prop where
 h:∀a,Sw n ρ a->a.defers=ds->(Code.loop body).wpIn (Fr r) 0 P (qfk n Q) a w
structure DrawW(P:DW)(n:Nat)(r:Option Nat)(id:Nat)(ops:Array Oper)(Q:QW)(ρ:Eb)(ds:Ei)(w:DU):Prop where
 h:∀a,Sw n ρ a->a.defers=ds->(Code.region id ops true).wpIn (Fr r) 0 P (qfk n Q) a w
structure ScopeW(P:DW)(n:Nat)(r:Option Nat)(c:Code)(Q:QW)(ρ:Eb)(ds:Ei)(w:DU):Prop where
 h:∀a,Sw n ρ a->a.defers=ds->(Code.scope c).wpIn (Fr r) 0 P (qfk n Q) a w
structure RangeW(P:DW)(n:Nat)(r:Option Nat)(f:Operand)(ps:Array Tmp)(assign body:Code)(Q:QW)(ρ:Eb)(ds:Ei)(w:DU):Prop where
 h:∀a,Sw n ρ a->a.defers=ds->(Code.rangeFunc f ps assign body).wpIn (Fr r) 0 P (qfk n Q) a w
def qfn(P:DW)(n:Nat)(r:Option Nat):Code->QW->Eb->Ei->DU->Prop
 | .skip,Q,ρ,ds,w=>Q .normal ρ ds w
 | .region id ops H,Q,ρ,ds,w=>
  match H with
  | false=>regW P n r ops.toList (Q .normal) ops.toList ρ ds w
  | true=>DrawW P n r id ops Q ρ ds w
 | .seq a b,Q,ρ,ds,w=>qfn P n r a (seqW (qfn P n r b Q) Q) ρ ds w
 | .cond c t e,Q,ρ,ds,w=>
  match ev ρ c with
  | .bool b=>Tst b (qfn P n r t Q ρ ds w) (qfn P n r e Q ρ ds w)
  | _=>False
 | .block id c,Q,ρ,ds,w=>qfn P n r c (qxc id Q) ρ ds w
 | .loop c,Q,ρ,ds,w=>LoopW P n r c Q ρ ds w
 | .exit id,Q,ρ,ds,w=>Q (.exit id) ρ ds w
 | .label _,Q,ρ,ds,w=>Q .normal ρ ds w
 | .ret,Q,ρ,ds,w=>Q .ret ρ ds w
 | .goto l,Q,ρ,ds,w=>Q (.goto l) ρ ds w
 | .scope c,Q,ρ,ds,w=>ScopeW P n r c Q ρ ds w
 | .rangeFunc f p a b,Q,ρ,ds,w=>RangeW P n r f p a b Q ρ ds w
 | .refuse _,_,_,_,_=>False
section
variable {P:DW} {n:Nat} {r:Option Nat}
theorem Sw.yield{a:Act}(H:Sw n ρ a){ops:List Oper}(U:getL ops j=some oj)(V:oj.dst=some d)(W:d<n):
  yielded ops.toArray a.tmps j=match ρ d with | .bool b=>some b|_=>none:=St.yield H U V W
theorem qvy{K:Eb->Ei->Ec}{a:Act}{U:List Oper}(hg:Region.wanted o (yielded ops a.tmps)=true)(Z:Sw n ρ a)(hd:a.defers=ds)(h:runW P n r o K ρ ds w)(hk:∀V H W w',Sw n V W->W.defers=H->K V H w'->wpListIn (Fr r) 0 P ops Q' U W w'):
  wpListIn (Fr r) 0 P ops Q' (o::U) a w:=by
 unfold wpListIn;rw[Ad hg];refine qadd Z hd h λv H w' hp=>?_;obtain⟨V,h1,h2,h3⟩:=Z.put H hp
 grind
theorem qir{K:Eb->Ei->Ec}{a:Act}{H:List Oper}(hg:Region.wanted o (yielded ops a.tmps)=false)(ha:Sw n ρ a)(hd:a.defers=ds)(h:qv5 n o K ρ ds w)(hk:∀U V Z w',Sw n U Z->Z.defers=V->K U V w'->wpListIn (Fr r) 0 P ops Q' H Z w'):
  wpListIn (Fr r) 0 P ops Q' (o::H) a w:=by
 unfold wpListIn;rw[Aa (by rw[hg];simp)];refine⟨λ_ _=>trivial,?_⟩;obtain⟨U,h1,h2,h3⟩:=ha.put ds h;have e:({ a with defers:=ds }:Act)=a:=by subst hd;rfl
 grind
theorem qag5{ops:List Oper}{Q:Eb->Ei->Ec}(hQ:∀ρ ds a w,Sw n ρ a->a.defers=ds->Q ρ ds w->Q' .normal a w)(l:List Oper):
  ∀(ρ:Eb) (ds:Ei) (a:Act) (w:DU),Sw n ρ a->a.defers=ds->regW P n r ops Q l ρ ds w->wpListIn (Fr r) 0 P ops.toArray Q' l a w:=by
 induction l with
 | nil=>intro ρ ds a w U hd h;exact hQ _ _ _ _ U hd h
 | cons o H ih=>
  intro ρ ds a w U hd h;unfold regW at h;have ag:∀V W Z w',Sw n V Z->Z.defers=W->regW P n r ops Q H V W w'->wpListIn (Fr r) 0 P ops.toArray Q' H Z w':=(by omega)
  split at h
  ·grind [qvy,Region.wanted]
  ·rename_i j af hg
   split at h
   ·grind [qa2,qir,Region.wanted,yielded]
   ·rename_i oj hj
    split at h
    ·grind [qir,qa2,Region.wanted,yielded]
    ·rename_i d aa
     cases hn:Nat.blt d n<;>rw[hn]at h
     ·exact h.elim
     ·have ad:d<n:=by simpa using hn
      have hy:=U.yield hj aa ad;simp only[cond_true]at h
      split at h
      ·rename_i b hb
       rw[hb]at hy;cases b
       ·have h:=h.f rfl;have ae:Sw n _ a:=St.same U hb
        grind [qvy,Region.wanted,qir]
       ·have h:=h.t rfl;have ae:Sw n _ a:=St.same U hb
        grind [qir,Region.wanted,qvy]
      grind [qir,Region.wanted]
theorem q4w{K:Eb->Ei->Ec}{Q:QW}{e:Exit}{a:Act}(h:qfk n (seqW K Q) e a w):
  Exit.then (λa w=>∃ρ,Sw n ρ a/\K ρ a.defers w) (qfk n Q) e a w:=by
 obtain⟨ρ,H,U⟩:=h;cases e<;>exact⟨ρ,H,U⟩
theorem qu4{Q:QW}{e:Exit}{a:Act}(h:qfk n (qxc id Q) e a w):
  Exit.inBlock id (qfk n Q) e a w:=by
 obtain⟨ρ,U,H⟩:=h;cases e with
 | exit i=>
  by_cases hi:i=id
  ·have V:Nat.beq i id=true:=by subst hi;simp
   simp only[qxc,V,cond_true]at H;simp only[Exit.inBlock,hi,if_true];exact⟨ρ,U,H⟩
  ·have V:Nat.beq i id=false:=(by grind [Nat.eq_of_beq_eq_true])
   simp only[qxc,V,cond_false]at H;simp only[Exit.inBlock,hi,if_false];exact⟨ρ,U,H⟩
 | normal=>exact⟨ρ,U,H⟩
 | goto l=>exact⟨ρ,U,H⟩
 | ret=>exact⟨ρ,U,H⟩
 | panic c=>exact⟨ρ,U,H⟩
 | outgrown=>exact⟨ρ,U,H⟩
theorem qgj(c:Code):∀(Q:QW) (ρ:Eb) (ds:Ei) (w:DU),qfn P n r c Q ρ ds w->∀a,Sw n ρ a->a.defers=ds->c.wpIn (Fr r) 0 P (qfk n Q) a w:=by
 induction c with
 | skip=>intro Q ρ ds w h a H U;subst U;exact Go.wpIn_skip ⟨ρ,H,h⟩
 | region id ops V=>
  intro Q ρ ds w h a H U;cases V
  ·refine wpIn_region_list ?_;have:=qag5 (Q':=qfk n Q) (λρ ds a w H U h=>by subst U;exact⟨ρ,H,h⟩) ops.toList ρ ds a w H U h;omega
  ·exact h.h a H U
 | seq x y Z hy=>
  intro Q ρ ds w h a H U;refine Go.wpIn_seq (Go.wpIn_mono (Z _ _ _ _ h a H U) λe a w h=>?_);have:=q4w h;cases e with
  | normal=>obtain⟨aa,h1,h2⟩:=this;exact hy _ _ _ _ h2 _ h1 rfl
  | exit i=>exact this
  | goto l=>exact this
  | ret=>exact this
  | panic c=>exact this
  | outgrown=>exact this
 | cond c t e ht he=>
  intro Q ρ ds w h a H U;unfold qfn at h
  split at h
  ·rename_i b hb
   refine Go.wpIn_cond_split (t:=b) (by rw[H.eval,hb]) (λe=>ht _ _ _ _ (h.t e) a H U) (λe=>he _ _ _ _ (h.f e) a H U)
  ·exact h.elim
 | block id c W=>
  intro Q ρ ds w h a H U;exact Go.wpIn_block (Go.wpIn_mono (W _ _ _ _ h a H U) λe a w h=>qu4 h)
 | loop c W=>intro Q ρ ds w h a H U;exact h.h a H U
 | rangeFunc f p x b Z hb=>intro Q ρ ds w h a H U;exact h.h a H U
 | exit id=>intro Q ρ ds w h a H U;subst U;exact Go.wpIn_exit ⟨ρ,H,h⟩
 | scope c W=>intro Q ρ ds w h a H U;exact h.h a H U
 | label l=>intro Q ρ ds w h a H U;subst U;exact Go.wpIn_label ⟨ρ,H,h⟩
 | goto l=>intro Q ρ ds w h a H U;subst U;exact Go.wpIn_goto ⟨ρ,H,h⟩
 | ret=>intro Q ρ ds w h a H U;subst U;exact Go.wpIn_ret ⟨ρ,H,h⟩
 | refuse ad=>intro Q ρ ds w h a H U;exact h.elim
theorem DrawW.of{Q:QW}(h:DrawV P n id ops (λe H w'=>Q e H [] w') ρ w):DrawW P n none id ops Q ρ [] w:=by
 refine⟨λa V W=>?_⟩;have:=h.h a (V.st W);show(Code.region id ops true).wpIn Fence.wide 0 P _ a w;refine wpIn_wide.2 (Go.wp_mono this λe a w ⟨H,U,Z⟩=>⟨H,U.sw,?_⟩);rw[U.defers];exact Z
theorem q95{α:Type}(l:α->List (Nat×DZ))(I:α->Ec)(μ:α->Nat){Q:QW}(x0:α)(h0:qrq (l x0) ρ)(hI:I x0 w)(hr:∀x w am,I x w->qfn P n r body (seqW (λaf ag w'=>ag=ds/\∃x',qrq (l x') af/\I x' w'/\μ x'<μ x) Q) (over (l x) am) ds w):LoopW P n r body Q ρ ds w:=by
 refine⟨λa ha hd=>?_⟩;intro b k cs an hb aa;have ao:∀m x,μ x=m->∀ρ a w,qrq (l x) ρ->Sw n ρ a->a.defers=ds->I x w->
   ∃e a' w',qfk n Q e a' w'/\ArrivesIn (Machine.fenced P (Fr r)) P (lone (b.atR a (.code body::.inLoop body::k)) cs w) b k cs e a' w':=by
  intro m
  induction m using Nat.strongRecOn with
  | _ m ih=>
   intro x hm ρ a w aq ar au hI;have h1:=hr x w ρ hI;rw[qsx aq]at h1;obtain⟨e,W,Z,hq,V⟩:=qgj body _ _ _ _ h1 a ar au b (.inLoop body::k) cs an hb aa;obtain⟨U,H,hq⟩:=hq;cases e with
   | normal=>
    obtain⟨ah,x',ai,av,aw⟩:=hq;obtain⟨aj,ak,al,ae,ad⟩:=ih (μ x') (hm ▸ aw) x' rfl U W Z ai H ah av;exact⟨aj,ak,al,ae,.of_steps (StepsIn.trans V (.one (fenced_calm hb aa rfl) stepR_inLoop)) ad⟩
   | exit id=>exact⟨_,W,Z,⟨U,H,hq⟩,.pass (x:=.inLoop body) rfl Js V⟩
   | goto l=>exact⟨_,W,Z,⟨U,H,hq⟩,.pass (x:=.inLoop body) rfl Js V⟩
   | ret=>exact⟨_,W,Z,⟨U,H,hq⟩,.pass (x:=.inLoop body) rfl Js V⟩
   | panic ch=>exact⟨_,W,Z,⟨U,H,hq⟩,.pass (x:=.inLoop body) rfl Js V⟩
   | outgrown=>exact⟨_,W,Z,⟨U,H,hq⟩,.pass (x:=.inLoop body) rfl Js V⟩
 obtain⟨e,a',w',hq,V⟩:=ao _ x0 rfl ρ a w h0 ha hd hI;exact⟨e,a',w',hq,.of_steps (.one (fenced_calm hb aa rfl) stepR_loop) V⟩
structure LeaveV(P:DW)(n:Nat)(fn:Func)(R:Ea)(ρ:Eb)(ds:Ei)(w:DU):Prop where
 h:∀a,Sw n ρ a->LeavesInM (Fr none) 0 P fn a.tmps (λe w'=>∃v,e=.returned v/\R v w') ds .returning w
def qof(P:DW)(n:Nat)(H:Func)(R:Ea)(ρ:Eb)(ds:Ei)(w:DU):Prop:=
 match ds with
 | []=>resV H.results ρ w H R P n
 | d::ds=>LeaveV P n H R ρ (d::ds) w
theorem qh4{H:Func}(h:qof P n H R ρ ds w){a:Act}(U:Sw n ρ a):
  LeavesInM (Fr none) 0 P H a.tmps (λe w'=>∃v,e=.returned v/\R v w') ds .returning w:=by
 cases ds with
 | nil=>
  obtain⟨v,V,W⟩:=qmt rfl U h;exact⟨v,V,v,rfl,W⟩
 | cons d ds=>exact h.h a U
theorem LeaveV.mark{U:Func}{D:Nat}(h:w.heap[D]?=some (.deferred (some [])))(V:∀w',w'=setO w D (.deferred none)->qof P n U R ρ ds w'):LeaveV P n U R ρ ({ target:=.collected D,args:=#[] }::ds) w:=
 ⟨λa W=>⟨by simp,.inl ⟨D,_,rfl,run_takeDeferred h,qh4 (V _ rfl) W⟩⟩⟩
def GvD(P:DW)(f:FuncId)(args:Ee)(w:DU)(R:Ec):Prop:=
 qdp P f=true/\CallsDIn (Fr none) 0 P f args.toArray .returning w λe H w'=>H=.returning/\∃v,e=.returned v/\R w'
theorem LeaveV.call{U:Func}{g:FuncId}(h:GvD P g vs w λw'=>qof P n U R ρ ds w'):LeaveV P n U R ρ ({ target:=.fn (.func g) #[],args:=vs.toArray }::ds) w:=by
 refine⟨λa V=>⟨by simp,.inr ⟨(by grind [Fr]),.func g,#[],g,vs.toArray,rfl,?_,λ_ _=>trivial,?_⟩⟩⟩
 ·simp only[invoke,Array.append_empty];exact qc7 h.1 _
 ·refine h.2.mono ?_;rintro e Z w' ⟨rfl,v,rfl,W⟩;exact qh4 W V
def qakz(P:DW)(n:Nat)(H:Func)(R:Ea):QW
 | .normal,ρ,ds,w=>qof P n H R ρ ds w
 | .ret,ρ,ds,w=>qof P n H R ρ ds w
 | _,_,_,_=>False
theorem qac2{n:Nat}(V:vs.length<=n):Sw n (ini vs) { tmps:=vs.toArray++Array.replicate (n-vs.toArray.size) undef,defers:=[] }:=by
 refine⟨by simp;omega,λt=>?_,rfl⟩;rw[qac1,Ce]
 grind
theorem gvW{V:Func}{c:Code}(Z:qdp P f=true)(hf:P.funcs[f]?=some V)(hb:V.body=some c)(hn:V.ntmps=n)(hl:Nat.ble vs.length n=true)(h:qfn P n none c (qakz P n V R) (ini vs) [] w):Gv P f vs w R:=by
 have W:vs.length<=n:=by simpa using hl
 refine⟨Z,qdf (r:=none) (m:=0) |>.1 (callsIn_of_wp_marks hf hb trivial (Go.wpIn_mono (qgj c _ _ _ _ h _ (by rw[hn];exact qac2 W) rfl) λe a w H=>?_))⟩;obtain⟨ρ,U,H⟩:=H;cases e with
 | normal=>exact qh4 H U
 | ret=>exact qh4 H U
 | exit i=>exact H.elim
 | goto i=>exact H.elim
 | panic i=>exact H.elim
 | outgrown=>exact H.elim
theorem gvD{V:Func}{c:Code}{R:Ec}(he:qdp P f=true)(hf:P.funcs[f]?=some V)(hb:V.body=some c)(hn:V.ntmps=n)(hl:Nat.ble vs.length n=true)(h:qfm P n c (q8k P n V (λ_ w'=>R w')) (ini vs) w):GvD P f vs w R:=by
 have aa:vs.length<=n:=by simpa using hl
 have W:c.wpIn (Fr none) 0 P (bodyPost P V λe w'=>∃v,e=.returned v/\R w') { tmps:=vs.toArray++Array.replicate (V.ntmps-vs.toArray.size) undef,defers:=[] } w:=by
  refine wpIn_wide.2 (Go.wp_mono (qkt c _ _ _ h _ (by rw[hn];exact(qac2 aa).st rfl)) λe a w U=>?_);obtain⟨ρ,H,U⟩:=U;cases e with
  | normal=>
   obtain⟨v,W,h2⟩:=qmt rfl H U;exact⟨H.defers,v,W,v,rfl,h2⟩
  | ret=>
   obtain⟨v,W,h2⟩:=qmt rfl H U;exact⟨H.defers,v,W,v,rfl,h2⟩
  | exit i=>exact U.elim
  | goto i=>exact U.elim
  | panic i=>exact U.elim
  | outgrown=>exact U.elim
 exact⟨he,callsDIn_of_wp hf hb trivial W⟩
theorem GvD.mono{R H:Ec}(h:GvD P f vs w R)(U:∀w',R w'->H w'):GvD P f vs w H:=
 ⟨h.1,h.2.mono (by grind)⟩
structure Carr(J:Ed->Ec):Prop where
 ext:∀{X w w'},J X w->Ext w w'->J X w'
 get:∀{X w} {b:Nat} {o:Obj},J X w->(b,o)∈X->w.heap[b]?=some o
 new:∀{X w} (o:Obj),J X w->J ((w.heap.size,o)::X) (w.alloc o)
 set:∀{X w} {b:Nat} {o:Obj} (o':Obj),J ((b,o)::X) w->J ((b,o')::X) (setO w b o')
 drop:∀{X w} {x:Nat×Obj},J (x::X) w->J X w
 perm:∀{X Y w},J X w->X.Perm Y->J Y w
theorem Carr.tail(h:Carr J)(L:Ed):Carr λX w=>J (X++L) w:=
 ⟨h.ext,λk V=>h.get k (by grind),λo k=>h.new o k,λH k=>h.set H k,h.drop,λk U=>h.perm k (U.append_right L)⟩
theorem Carr.any{H:Type}{J:H->Ed->Ec}(h:∀c,Carr (J c)):Carr λX w=>∃c,J c X w:=
 ⟨λ⟨c,k⟩ U=>⟨c,(h c).ext k U⟩,(by grind [get]),(by grind [new]),(by grind [set]),λ⟨c,k⟩=>⟨c,(h c).drop k⟩,λ⟨c,k⟩ V=>⟨c,(h c).perm k V⟩⟩
def SeqV(P:DW)(gf:FuncId)(lb:Ee)(xs:List Ee)(U:Ec):Prop:=
 ∀(l:Nat) (I H:Nat->Ec) (w:DU),(∀k w,I k w->U w)->(∀k w w',I k w->Ext w w'->I k w')->(∀k w w',H k w->Ext w w'->H k w')->I 0 w->
  (∀k x w,xs[k]?=some x->I k w->YieldV P l x w λv w'=>(v=.bool true/\I (k+1) w')\/(v=.bool false/\H k w'))->
  Gv P gf (.func (.yield l) #[] #[]::lb) w λ_ w'=>I xs.length w'\/∃k,k<xs.length/\H k w'
def SeqC(P:DW)(gf:FuncId)(lb:Ee)(xs:List Ee)(U:Ec):Prop:=
 ∀(l:Nat) (I H:Nat->Ed->Ec) (w:DU),(∀k,Carr (I k))->(∀k,Carr (H k))->(∀k X w,I k X w->U w)->I 0 [] w->
  (∀k x X w,xs[k]?=some x->I k X w->YieldV P l x w λv w'=>(v=.bool true/\I (k+1) X w')\/(v=.bool false/\H k X w'))->
  Gv P gf (.func (.yield l) #[] #[]::lb) w λ_ w'=>I xs.length [] w'\/∃k,k<xs.length/\H k [] w'
theorem SeqV.toC{xs:List Ee}{V:Ec}(h:SeqV P gf lb xs V):SeqC P gf lb xs V:=
 λl I W w Z H hw h0 hy=>h l (λk w=>I k [] w) (λk w=>W k [] w) w (by grind) (λk _ _ g U=>(Z k).ext g U) (λk _ _ g U=>(H k).ext g U) h0 (by grind)
def qtu:List Tmp->Ee->Eb->Nat->DZ
 | p::H,v::vs,ρ=>qtu H vs (upd ρ p v)
 | _,_,ρ=>ρ
theorem qza:∀(H:List Tmp) (vs:Ee) (ρ:Eb) (t:Eh),H.all (Nat.blt · n)=true->St n ρ ⟨t,[]⟩->
  St n (qtu H vs ρ) ⟨(H.zip vs).foldl (λt (p,v)=>t.setIfInBounds p v) t,[]⟩:=by
 intro H
 induction H with
 | nil=>intro vs ρ t _ h;exact h
 | cons p H V=>
  intro vs ρ t U h;cases vs with
  | nil=>exact h
  | cons v vs=>
   simp only[CS,AQ]at U;exact V vs _ _ U.2 (h.put (by simp_all) v)
structure BeginV(w1 w2:DU)(ds:Ei)(K:Prop):Prop where
 w:w2=w1
 d:ds=[]
 k:K
def qaaf(K:Eb->Ei->Ec):QW
 | .normal,ρ,ds,w=>K ρ ds w
 | _,_,_,_=>False
def qy3(J:Ec)(H:Code->Ec):QW
 | .normal,_,_,w=>J w
 | .ret,_,_,w=>H .ret w
 | .exit id,_,_,w=>H (.exit id) w
 | .goto t,_,_,w=>H (.goto t) w
 | _,_,_,_=>False
def qake(c:Code)(Q:QW)(ρ:Eb)(ds:Ei)(w:DU):Prop:=
 match c with
 | .ret=>Q .ret ρ ds w
 | .exit id=>Q (.exit id) ρ ds w
 | .goto t=>Q (.goto t) ρ ds w
 | _=>False
theorem qyt{f:Operand}{ps:Array Tmp}{Q:QW}{Φ:Ec}{xs:List Ee}(hf:ev ρ f=.func (.func gf) #[] lb.toArray)(he:qdp P gf=true)(aj:SeqC P gf lb xs Φ)(ar:ps.toList.all (Nat.blt · n)=true)(au:∀x∈xs,x.length=ps.size)(J:Nat->Ed->Ec)(Jx:Code->Nat->Ed->Ec)(hJ:∀k,Carr (J k))(U:∀c k,Carr (Jx c k))(hw:∀k X w,J k X w->Φ w)(h0:J 0 [] w)(ag:∀l D ob k x X w1 w2,xs[k]?=some x->J k ((l,ob)::(D,.deferred (some []))::X) w2->
   qfn P n (some l) assign (qaaf λak av aw=>BeginV w1 aw av
    (qfn P n (some l) body (qy3 (J (k+1) ((l,ob)::(D,.deferred (some []))::X)) (λc=>Jx c k ((l,ob)::(D,.deferred (some []))::X))) ak [] w2)) (qtu ps.toList x ρ) [] w1)(ah:∀D w',J xs.length [(D,.deferred (some []))] w'->Q .normal ρ ({ target:=.collected D,args:=#[] }::ds) w')(ai:∀D c k w',k<xs.length->Jx c k [(D,.deferred (some []))] w'->qake c Q ρ ({ target:=.collected D,args:=#[] }::ds) w'):RangeW P n none f ps assign body Q ρ ds w:=by
 refine⟨λa ha hd=>?_⟩;subst hd;refine wpIn_rangeFunc ?_;intro fn ax;obtain⟨V,H⟩:∃V:LoopState->Option Code->Loop,V=λst pe=>{ state:=st,pending:=pe,fn,tmps:=a.tmps,params:=ps,assign,body,defers:=w.heap.size }:=⟨_,rfl⟩
 obtain⟨W1,an⟩:∃W1,(w.alloc (.deferred (some []))).alloc (.loop (V .ready none))=W1:=⟨_,rfl⟩
 have hD:=(hJ 0).new (.deferred (some [])) h0;have hL:=(hJ 0).new (.loop (V .ready none)) hD;rw[an,World.size_alloc]at hL;refine⟨w.heap.size+1,[{ target:=.collected w.heap.size,args:=#[] }],W1,{ target:=.fn (.func gf) lb.toArray,args:=#[.func (.yield (w.heap.size+1)) #[] #[]] },W1,gf,
  #[.func (.yield (w.heap.size+1)) #[] #[]]++lb.toArray,W1,?_,?_,λ_ _=>trivial,?_,(by grind [Fr]),?_⟩
 ·rw[<-an,H];exact run_enterLoop_outer _ _ _ _ _
 ·have:a.eval f=.func (.func gf) #[] lb.toArray:=by rw[ha.eval,hf]
  simp only[resolve,this];simp[go_sem]
 ·grind [invoke,qc7]
 ·have ea:#[Value.func (.yield (w.heap.size+1)) #[] #[]]++lb.toArray=(Value.func (.yield (w.heap.size+1)) #[] #[]::lb).toArray:=by simp
  rw[ea];refine qdf.2 ((aj (w.heap.size+1) (λk X W=>J k (X++[(w.heap.size+1,.loop (V .ready none)),(w.heap.size,.deferred (some []))]) W)
   (λk X W=>∃c,Jx c k (X++[(w.heap.size+1,.loop (V .done (some c))),(w.heap.size,.deferred (some []))]) W) W1
   (λk=>(hJ k).tail _) (λk=>Carr.any λc=>(U c k).tail _) (by grind) hL ?_).2.mono ?_)
  ·intro k x X W hx hk;replace hk:=(hJ k).perm hk Au;have hl:=(hJ k).get hk mh;have hy:=run_yield (P:=P) (args:=x.toArray) hl (by rw[H];simpa using au x (zmg hx));rw[H]at hy;refine⟨⟨fn,_,assign,body,hy,roundIn_of_wpIn ax ?_⟩⟩;have h1:=ag (w.heap.size+1) w.heap.size _ k x X W _ hx ((hJ k).set (.loop { V .ready none with state:=.busy }) hk);have hz:(ps.zip x.toArray).foldl (λt (p,v)=>t.setIfInBounds p v) a.tmps=(ps.toList.zip x).foldl (λt (p,v)=>t.setIfInBounds p v) a.tmps:=by
    rw[<-Array.foldl_toList];simp
   have ay:Sw n (qtu ps.toList x ρ) { tmps:=(ps.zip x.toArray).foldl (λt (p,v)=>t.setIfInBounds p v) a.tmps,defers:=[] }:=by
    rw[hz];exact qza _ _ _ _ ar ha
   refine Go.wpIn_mono (F:=Fr (some (w.heap.size+1))) (qgj assign _ _ _ _ h1 _ ay rfl) λe a1 w1 Z=>?_;obtain⟨ak,ao,Z⟩:=Z;cases e with
   | normal=>
    obtain⟨az,a0,a3⟩:=Z;subst az;refine⟨_,run_beginRound hl (by rw[H]),?_⟩;refine Go.wpIn_mono (F:=Fr (some (w.heap.size+1))) (qgj body _ _ _ _ a3 _ ao a0) λe a2 w2 Z=>?_;obtain⟨a5,a4,Z⟩:=Z;cases e with
    | normal=>
     refine⟨_,_,run_endRound none ((hJ _).get Z mh),_,rfl,.inl ⟨rfl,?_⟩⟩;have:=(hJ (k+1)).perm ((hJ (k+1)).set (.loop (V .ready none)) Z) (Au (l₁:=[_,_]));rw[H]at this|-;exact this
    | ret=>
     refine⟨_,_,run_endRound (some .ret) ((U _ _).get Z mh),_,rfl,.inr ⟨rfl,.ret,?_⟩⟩;have:=(U _ k).perm ((U _ k).set (.loop (V .done (some .ret))) Z) (Au (l₁:=[_,_]));rw[H]at this|-;exact this
    | exit id=>
     refine⟨_,_,run_endRound (some (.exit id)) ((U _ _).get Z mh),_,rfl,.inr ⟨rfl,.exit id,?_⟩⟩;have:=(U _ k).perm ((U _ k).set (.loop (V .done (some (.exit id)))) Z) (Au (l₁:=[_,_]));rw[H]at this|-;exact this
    | goto t=>
     refine⟨_,_,run_endRound (some (.goto t)) ((U _ _).get Z mh),_,rfl,.inr ⟨rfl,.goto t,?_⟩⟩;have:=(U _ k).perm ((U _ k).set (.loop (V .done (some (.goto t)))) Z) (Au (l₁:=[_,_]));rw[H]at this|-;exact this
    | panic ch=>exact Z.elim
    | outgrown=>exact Z.elim
   | ret=>exact Z.elim
   | exit id=>exact Z.elim
   | goto t=>exact Z.elim
   | panic ch=>exact Z.elim
   | outgrown=>exact Z.elim
  ·rintro e W2 ⟨v,rfl,h|⟨k,hk,c,h⟩⟩
   ·have hl:=(hJ _).get h mh;have:=run_endLoop (P:=P) hl (by rw[H];simp);rw[H]at this;exact⟨none,_,this,ρ,ha,ah _ _ ((hJ _).drop ((hJ _).set _ h))⟩
   ·have hl:=(U _ _).get h mh;have:=run_endLoop (P:=P) hl (by rw[H];simp);rw[H]at this;refine⟨some c,_,this,?_⟩;have hs:=ai _ c k _ hk ((U _ _).drop ((U _ _).set (.loop { V .done (some c)with state:=.exhausted }) h));rw[H]at hs;cases c with
    | ret=>exact Go.wpIn_ret ⟨ρ,ha,hs⟩
    | exit id=>exact Go.wpIn_exit ⟨ρ,ha,hs⟩
    | goto t=>exact Go.wpIn_goto ⟨ρ,ha,hs⟩
    | _=>exact hs.elim
theorem Mem.glue{a b c:DU}(h:Mem a b L)(k:Mem b c M):Mem a c (M++L):=by
 refine⟨h.ext.trans k.ext,λx H=>?_,?_⟩
 ·rcases Bc.1 H with H|H
  ·exact⟨AI h.ext.size (k.own x H).1,(k.own x H).2⟩
  ·exact⟨(h.own x H).1,k.ext.get (h.own x H).2⟩
 ·rw[AJ,Do];refine⟨k.nodup,h.nodup,?_⟩;intro u U v V e;obtain⟨x,H,rfl⟩:=AF.1 U;obtain⟨y,W,rfl⟩:=AF.1 V;have Z:=(k.own x H).1;have h2:=h.lt (b:=y.1) (o:=y.2) W;omega
theorem Mem.glue2{a b c:DU}(h:Mem a b L)(k:Mem b c M):Mem a c (L++M):=(h.glue k).perm Au
theorem Carr.mem{V:Type}(A:V->Prop)(L:V->Ed):Carr λX w=>∃s,A s/\Mem w0 w (X++L s):=by
 refine⟨?_,?_,?_,?_,?_,?_⟩
 ·rintro X w w' ⟨s,U,H⟩ W;exact⟨s,U,H.call W⟩
 ·rintro X w b o ⟨s,U,H⟩ hx;exact H.get (by grind)
 ·rintro X w o ⟨s,U,H⟩;exact⟨s,U,H.new rfl rfl⟩
 ·rintro X w b o Z ⟨s,U,H⟩;exact⟨s,U,H.setO (i:=0) Z rfl rfl⟩
 ·rintro X w x ⟨s,U,H⟩;exact⟨s,U,H.sub Js⟩
 ·rintro X Y w ⟨s,U,H⟩ hp;exact⟨s,U,H.perm (hp.symm.append_right _)⟩
end
end V
open Go.RowKit V
set_option maxHeartbeats 8000000
set_option maxRecDepth 100000
def bSt(E:LB)(p:Nat):Nat->LB×Nat
 | 0=>([],p)
 | j+1=>((blk E p j).1,(blk E p j).2.1)
theorem qair{E:LB}{p:Nat}:∀{j:Nat},(∀i,i<j->(blk E p i).2.2=0)->blk E p j=qgw E (bSt E p j).2 (decide (j=0)) (bSt E p j).1
 | 0,_=>rfl
 | j+1,h=>by
  rw[blk,Aa (by rw[h j Oo];simp)];rfl
def bRow(m:LB)(k j:Nat):Ee:=[ii (16*k+j:Nat),.string ⟨(blk (qd m) (q7 m k) j).1.toArray⟩]
structure BEnd(m:LB)(k n:Nat):Prop where
 ok:∀j,j<n->16*k+j<dN m/\(blk (qd m) (q7 m k) j).2.2=0
 le:n<=16
 stop:n<16->16*k+n<dN m->(blk (qd m) (q7 m k) n).2.2≠0
theorem BEnd.ex(m:LB)(k:Nat):∃n,BEnd m k n:=by
 have:∀d j,j+d=16->(∀i,i<j->16*k+i<dN m/\(blk (qd m) (q7 m k) i).2.2=0)->∃n,BEnd m k n:=by
  intro d
  induction d with
  | zero=>intro j U h;exact⟨j,h,by omega,λh=>by omega⟩
  | succ d V=>
   intro j U h
   by_cases H:16*k+j<dN m/\(blk (qd m) (q7 m k) j).2.2=0
   ·refine V (j+1) Oo λi hi=>?_
    by_cases e:i=j
    ·subst e;exact H
    ·exact h i Oo
   ·exact⟨j,h,by omega,λ_ W Z=>H ⟨W,Z⟩⟩
 exact this 16 0 rfl λi h=>by omega
theorem qr4{m:LB}(h:DictAt w b m)(k:Nat):q7 m k<=134217728:=by
 have:=qrm (qx m) (k*dW m) (dW m) h.width;unfold q7;omega
theorem qaiq{m:LB}{n:Nat}(h:BEnd m k n)(U:j<=n)(V:(qd m).length<=67108864)(H:q7 m k<=134217728):
  (bSt (qd m) (q7 m k) j).1.length<=262144/\(bSt (qd m) (q7 m k) j).2<=134217728:=by
 cases j with
 | zero=>exact⟨by simp[bSt],H⟩
 | succ j=>
  have:=qack (h.ok j Oo).2;exact⟨this.1,by have:=this.2;simp only[bSt];omega⟩
def BlkΦ(b:Nat)(m:LB)(k b1 b2:Nat)(w:DU):Prop:=DictAt w b m/\w.cell? ⟨b1,0,none⟩=some (pp b)/\w.cell? ⟨b2,0,none⟩=some (ii k)
theorem qru(b:Nat)(m:LB)(k n b1 b2:Nat)(hk:k<upN (dN m) 16)(W:BEnd m k n):
  SeqV Eg 370 [pp b1,pp b2] ((List.range n).map (bRow m k)) (BlkΦ b m k b1 b2):=by
 intro l I Ix w hI sI aq h0 hy;obtain⟨h,h1,h2⟩:=hI 0 w h0;have ar:upN (dN m) 16<=4194304:=AI (qbc _ _ Od) h.n;have ah:(qd m).length<=67108864:=by rw[h.entries];exact h.size
 have ai:=qr4 h k;refine gvW Jk Tryz.func370 rfl Tryz.ntmps370 rfl (zw ?_);refine LoadV.of h1 (zw ?_);refine LoadV.of h2 (zw ?_);refine zcv (qs5 b m k w h hk) ?_;rintro v w' ⟨rfl,rfl⟩;(conv=>whnf);refine LoadV.of h2 (zu ?_);refine q95 (λj:Nat=>[(0,.func (.yield l) #[] #[]),(1,pp b1),(2,pp b2),(4,ii (bSt (qd m) (q7 m k) j).2),(5,.string ⟨(bSt (qd m) (q7 m k) j).1.toArray⟩),(6,ii ((k:Int)*16+j))])
  (λj w'=>j<=n/\I j w') (λj=>n-j) 0 ⟨rfl,rfl,rfl,rfl,rfl,by show ii _=ii _;congr 1,trivial⟩ ⟨by omega,h0⟩ ?_
 rintro j w1 au ⟨hj,V⟩;obtain⟨Z,aa,aj⟩:=hI j w1 V;obtain⟨av,aw⟩:=qaiq W hj ah ai;have hb:=λhg:∀i,i<j->(blk (qd m) (q7 m k) i).2.2=0=>qair hg
 have hb:=hb λi hi=>(W.ok i Oo).2
 have ax:=W.le;(conv=>whnf);refine LoadV.of aa (zw ?_);obtain⟨⟨P,cp,E,ce,ak,_,_,_⟩,_⟩:=id Z;refine LoadV.own ak rfl ?_;have ad:((List.range n).map (bRow m k)).length=n:=by simp
 have U:j=n->I ((List.range n).map (bRow m k)).length w1:=λe=>by rw[ad,<-e];exact V
 (conv=>whnf);refine zC (λ_=>zu ?_) (λ_=>zu ?_)
 ·refine LoadV.of aj (zw ?_);refine zt ?_;refine zC (λ_=>zw ?_) (λ_=>zw ?_)
  ·refine LoadV.of aa (zw ?_);have al:decide (((k:Int)*16+(j:Int))%16=0)=decide (j=0):=decide_eq_decide.2 Oo;refine Obl.mk ⟨by omega,by omega⟩ (zw ?_);rw[al];refine zcv (qr7 b m (bSt (qd m) (q7 m k) j).2 (decide (j=0)) ⟨(bSt (qd m) (q7 m k) j).1.toArray⟩ w1 Z Oo (by show(bSt (qd m) (q7 m k) j).1.length<=_;omega)) ?_;rintro v w2 ⟨rfl,ae⟩;have am:qgw (qd m) (bSt (qd m) (q7 m k) j).2 (decide (j=0)) (⟨(bSt (qd m) (q7 m k) j).1.toArray⟩:DV).data.toList=blk (qd m) (q7 m k) j:=hb.symm;rw[am];obtain⟨x,ex⟩:∃x,x=blk (qd m) (q7 m k) j:=⟨_,rfl⟩
   have af:=W.ok j;have an:=W.stop;rw[<-ex]at af|-;conv=>whnf
   by_cases ag:x.2.2=0
   ·have H:j<n:=by
     refine CE λhc=>?_;obtain rfl:j=n:=by omega
     exact an Oo Oo (by rw[<-ex];exact ag)
    refine zv ?_;refine YieldV.mono (hy j [ii ((k:Int)*16+j),.string ⟨x.1.toArray⟩] w2 ?_ (sI _ _ _ V ae)) ?_
    ·rw[Ao,Bu H,Bd,bRow,<-ex]
     congr 3
     omega
    rintro v w3 (⟨rfl,ao⟩|⟨rfl,hX⟩)
    ·refine zu ?_;refine⟨rfl,j+1,⟨rfl,rfl,rfl,?_,?_,?_,trivial⟩,⟨by omega,ao⟩,by omega⟩
     ·simp only[bSt,<-ex];rfl
     ·simp only[bSt,<-ex];rfl
     ·show ii _=ii _
      congr 1
    ·refine zu ?_;exact .inr ⟨j,by rw[ad];exact H,hX⟩
   ·have H:j=n:=by
     refine CE λhc=>?_;exact ag (af Oo).2
    refine zv ?_;exact .inl (sI _ _ _ (U H) ae)
  ·have H:j=n:=by omega
   exact .inl (U H)
 ·have H:j=n:=by
   refine CE λhc=>?_;have:=(W.ok j Oo).1;omega
  exact .inl (U H)
theorem q17(b k:Nat)(w:DU):Gv Eg 324 [pp b,ii k] w λr w'=>
  (∃b1 b2,r=.func (.func 370) #[] #[pp b1,pp b2]/\w'.cell? ⟨b1,0,none⟩=some (pp b)/\w'.cell? ⟨b2,0,none⟩=some (ii k))/\Ext w w':=by
 refine ze Tryz.func324 Tryz.ntmps324 ?_;refine znm (Mem.nil w) λb1 U H=>zw ?_;refine znm H λb2 V H=>zw ?_;refine⟨⟨b1,b2,rfl,?_,?_⟩,H.ext⟩
 ·rw[qa (H.get (zmc mh))];rfl
 ·rw[qa (H.get mh)];rfl
def qi6(m:LB)(i:Nat):DZ:=
 match dGet m i with
 | some s=>.tuple #[.string ⟨s.toArray⟩,.bool true]
 | none=>.tuple #[.string ⟨#[]⟩,.bool false]
theorem qxr(b:Nat)(m:LB)(i:Nat)(w:DU)(h:DictAt w b m)(hi:i<=16777216):
  Gv Eg 249 [pp b,ii i] w λr w'=>r=qi6 m i/\Ext w w':=by
 refine gvW Jk Tryz.func249 rfl Tryz.ntmps249 rfl (zw ?_);refine znm (Mem.nil w) λbi w1 H=>zw ?_;refine znm H λbs w2 H=>zw ?_;refine znm H λbb w3 H=>zw ?_;refine DrawW.of ?_;obtain⟨⟨P,cp,E,ce,ad,_,_,_⟩,_⟩:=h.ext H.ext;refine zy ?_;refine LoadV.mem (H.drew) (i:=2) rfl rfl (zu ?_);refine LoadV.mem (H.drew) (i:=2) rfl rfl (zu ?_);refine LoadV.own ad rfl (zw ?_);refine zt ?_;refine zC (λ_=>zw ?_) (λ_=>zw ?_)
 ·have W:qi6 m i=.tuple #[.string ⟨#[]⟩,.bool false]:=by rw[qi6,dGet,Aa Oo]
  rw[W];refine StoreV.mem H.drew (i:=1) rfl Js rfl λw4 H=>zw ?_;refine StoreV.mem H (i:=0) rfl Js rfl λw5 H=>zw ?_;refine qi (R:=λv w'=>v=.tuple #[.string ⟨#[]⟩,.bool false]/\Ext w w') (zw ?_);refine zr H 1 ?_;refine zr H 0 ?_;exact⟨rfl,H.ext⟩
 have H:=H.drew;refine zr H 2 ?_;refine zv ?_;refine zcv (q17 b (i/16) w3.drew) ?_;rintro v w4 ⟨⟨b1,b2,rfl,ae,af⟩,ag⟩;have H:=H.call ag;have ah:=h.ext H.ext;(conv=>whnf);obtain⟨n,hn⟩:=BEnd.ex m (i/16);have am:=hn.le;have ai:i/16<upN (dN m) 16:=by unfold upN;omega
 have U:((List.range n).map (bRow m (i/16))).length=n:=by simp
 refine qyt (Φ:=BlkΦ b m (i/16) b1 b2) (lb:=[pp b1,pp b2]) (xs:=(List.range n).map (bRow m (i/16))) rfl Jk (qru b m (i/16) n b1 b2 ai hn).toC Od ?_
  (λk X w'=>∃_:Unit,k<=i%16/\Mem w4 w' (X++[]))
  (λc k X w'=>∃_:Unit,(c=.ret/\k=i%16)/\Mem w w' (X++[(bb,.cells #[.bool true] 4),(bs,.cells #[.string ⟨(blk (qd m) (q7 m (i/16)) (i%16)).1.toArray⟩] 9),(bi,.cells #[ii i] 3)]))
  (λk=>Carr.mem _ _) (λc k=>Carr.mem _ _) (λk X w' ⟨_,_,H⟩=>⟨ah.ext H.ext,H.ext.cell ae,H.ext.cell af⟩) ⟨(),Ag _,by simpa using Mem.nil w4⟩ ?_ ?_ ?_
 ·intro x Z;obtain⟨j,_,rfl⟩:=AF.1 Z;rfl
 ·rintro l D ob k x X w5 w6 Z ⟨_,hk,V⟩;have aj:k<n:=by
   have:=(Af.1 Z).1
   rwa[U]at this
  rw[Ao,Bu aj,Bd,AR]at Z;subst Z;have H:=H.glue2 V;(conv=>whnf);refine⟨rfl,rfl,?_⟩;(conv=>whnf);refine zr H 2 ?_;refine zC (λ_=>zw ?_) (λ_=>zw ?_)
  ·obtain rfl:k=i%16:=by omega
   refine StoreV.mem H (i:=1) rfl Js rfl λw7 H=>zw ?_;refine StoreV.mem H (i:=0) rfl Js rfl ?_;intro w8 H;rw[B4]at H;(conv=>whnf);exact⟨(),⟨rfl,rfl⟩,H.perm Au⟩
  ·exact⟨(),by omega,V⟩
 ·rintro D w5 ⟨_,hk,V⟩;rw[U]at hk;have H:=H.glue V;have W:qi6 m i=.tuple #[.string ⟨#[]⟩,.bool false]:=by
   have ak:=hn.stop;have al:(blk (qd m) (q7 m (i/16)) (i%16)).2.2≠0:=by
    have h1:=ak Oo Oo;rw[q8h h1 (i:=i%16) Oo];exact h1
   rw[qi6,dGet,Ad Oo,Aa al]
  rw[W];(conv=>whnf);refine StoreV.mem H (i:=2) rfl Js rfl λw6 H=>zw ?_;refine StoreV.mem H (i:=1) rfl Js rfl λw7 H=>zw ?_;refine LeaveV.mark (H.get mh) λw8 hw=>?_;have H:=H.setO (i:=0) _ rfl hw;(conv=>whnf);refine qi (R:=λv w'=>v=.tuple #[.string ⟨#[]⟩,.bool false]/\Ext w w') (zw ?_);refine zr H 2 ?_;refine zr H 1 ?_;exact⟨rfl,H.ext⟩
 ·rintro D c k w5 aa ⟨_,⟨rfl,rfl⟩,H⟩;rw[U]at aa;have W:qi6 m i=.tuple #[.string ⟨(blk (qd m) (q7 m (i/16)) (i%16)).1.toArray⟩,.bool true]:=by
   rw[qi6,dGet,Ad Oo,Ad (hn.ok _ aa).2]
  rw[W];(conv=>whnf);refine LeaveV.mark (H.get mh) λw8 hw=>?_;have H:=H.setO (i:=0) _ rfl hw;(conv=>whnf);refine qi (R:=λv w'=>v=.tuple #[.string ⟨(blk (qd m) (q7 m (i/16)) (i%16)).1.toArray⟩,.bool true]/\Ext w w') (zw ?_);refine zr H 2 ?_;refine zr H 1 ?_;exact⟨rfl,H.ext⟩
theorem qf2(h:(numE l k most).2=0):vNum l k<=most:=by
 grind [numE]
theorem qqk(h:(numE l k most).2=0):(numL (l.drop (vAt l k))).2.2=0:=by grind [numE]
theorem q2u(h:(dE l).2=0):dN l<=4194304/\qez l<=67108864/\dEnd l=l.length:=by
 unfold dE at h
 split at h
 ·omega
 rename_i W
 have H:=qan (f:=dhF l) (n:=2) Oo;have U:=H 0 Oo;have V:=H 1 Oo
 split at h
 ·cases h
 rename_i Z
 split at h
 ·cases h
 rename_i g2
 refine⟨?_,?_,by omega⟩
 ·exact qf2 U
 ·exact qf2 V
theorem q8z(l:LB)(A:oA)(c:Nat)(w:DU)(hS:SlAt encB 1 w A l)(hc:l.length<=c)(hl:l.length<=140737488355328)(hE:(dE l).2=0):
  Gv Eg 179 [.slice A l.length c] w λr w'=>r=.tuple #[.agg #[ii (dN l:Nat),ii (qez l:Nat),ii (qak l:Nat),ii (ql l:Nat)],fltV 0 0]/\Ext w w':=by
 obtain⟨av,aw,ax⟩:=q2u hE;have hh:=qan (f:=dhF l) (n:=2) (by grind [dE]);have ay:(numL (l.drop (vAt l 0))).2.2=0:=qqk (hh 0 Oo);have az:(numL (l.drop (vAt l 1))).2.2=0:=qqk (hh 1 Oo);have ao:=qg9 l 1;have aq:=qg9 l 2;have ar:=qhs l 0;have Z:=qhs l 1;refine ze Tryz.func179 Tryz.ntmps179 ?_;refine znm (Mem.nil w) λr2 w1 H=>zw ?_;refine znm H λr3 w2 H=>zw ?_;refine zcv (qch l A _ _ w2 (hS.ext H.ext) rfl hl) ?_;rintro r w3 ⟨rfl,rfl⟩;obtain⟨q,eq⟩:∃q,q=(numL l).2.2:=⟨_,rfl⟩
 obtain⟨s,es⟩:∃s,s=(numL l).2.1:=⟨_,rfl⟩
 have W:vAt l 1=s:=by grind [vAt]
 have ai:(numL l).1=vNum l 0:=rfl;have a0:dN l=vNum l 0:=rfl;have a1:qez l=vNum l 1:=rfl;have a2:(numL (l.drop (vAt l 0))).2.2=q:=by rw[eq];rfl
 obtain rfl:q=0:=by omega
 rw[numV,ai,<-eq,<-es];refine zu ?_;refine SliceV.bs (hS.ext H.ext) rfl s l.length c rfl rfl rfl Oo Oo hc Oo Js ?_;intro A' aa;rw[Am (by rw[zld];exact Ai _)]at aa;(conv=>whnf);refine zcv (qch (l.drop s) A' _ _ _ aa (by rw[zld]) (by rw[zld];omega)) ?_;rintro r w4 ⟨rfl,rfl⟩;obtain⟨q2,ad⟩:∃q2,q2=(numL (l.drop s)).2.2:=⟨_,rfl⟩
 obtain⟨V,ae⟩:∃V,V=(numL (l.drop s)).2.1:=⟨_,rfl⟩
 have af:(numL (l.drop s)).1=vNum l 1:=by rw[vNum,W]
 have ag:vAt l 2=s+V:=by rw[ae,vAt,W]
 have au:(numL (l.drop (vAt l 1))).2.2=q2:=by rw[ad,W]
 obtain rfl:q2=0:=by omega
 rw[numV,af,<-ad,<-ae];refine zu ?_;have ah:qak l=s+V:=ag;obtain⟨U,eU⟩:∃U,U=upN (dN l) 16:=⟨_,rfl⟩
 have a3:U=(vNum l 0+15)/16:=by grind [upN]
 have hW:qah (vNum l 1)<=64:=qcq 64 _ Oo Od;obtain⟨f,ef⟩:∃f,f=U*qah (vNum l 1):=⟨_,rfl⟩
 have aj:(U:Int)*(qah (vNum l 1):Int)=(f:Int):=by omega
 have a4:f<=262144*64:=by rw[ef];exact B8 Oo hW
 have ak:ql l=s+V+(f+7)/8:=by rw[ql,ah,<-eU,ef];rfl
 refine znm H λt9 w5 H=>zw ?_;refine zS H 0 ?_;intro w6 H;have H:Mem w w6 [(t9,.cells #[ii (vNum l 0:Nat),ii (vNum l 1:Nat),ii (s+V:Nat),ii 0] 200),(r3,.cells #[ii 0,ii 0] 201),(r2,.cells #[ii 0,ii 0,ii 0,ii 0] 200)]:=H;(conv=>whnf);refine LoadV.mem (i:=0) Oa rfl rfl (zw ?_);refine zt ?_;have al:((vNum l 0:Nat)+16-1:Int)/16=(U:Int):=by omega
 rw[al];refine DrawV.own rfl Jk (zw ?_);refine zo ?_;apply StepO.still
 ·intro wd hd;(conv=>whnf);refine LoadV.mem (Mem.call (Mem.drew H) hd) (i:=0) rfl rfl (zw ?_);exact PostO.still xr rfl
 (conv=>whnf);refine zo ?_;refine zo ?_;apply StepO.still
 ·intro wd hd;(conv=>whnf);refine zcv (qel (vNum l 1) wd Z) ?_;rintro v w9 ⟨rfl,rfl⟩;exact PostO.still xr rfl
 (conv=>whnf);apply StepO.still
 ·intro wd hd;(conv=>whnf);rw[aj];refine zv ?_;exact PostO.still xr rfl
 (conv=>whnf);(iterate 4 (refine zo ?_));intro w7 am
 (repeat(intro _;(conv=>whnf)))
 (conv=>whnf);refine StoreV.mem (H.drew.call am) (i:=0) rfl (show 3<4 by decide) rfl ?_;intro w8 H;have e4:(((s+V:Nat):Int)+((f:Int)+7)/8)=((ql l:Nat):Int):=by omega
 rw[e4]at H;have H:Mem w w8 [(t9,.cells #[ii (vNum l 0:Nat),ii (vNum l 1:Nat),ii (s+V:Nat),ii (ql l:Nat)] 200),(r3,.cells #[ii 0,ii 0] 201),(r2,.cells #[ii 0,ii 0,ii 0,ii 0] 200)]:=H;have an:dEnd l=ql l+vNum l 1:=rfl;obtain⟨d4,ed⟩:∃d4,d4=ql l:=⟨_,rfl⟩
 rw[<-ed]at H an ak;(conv=>whnf);refine LoadV.mem (i:=0) Oa rfl rfl (zw ?_);refine LoadV.mem (i:=0) Oa rfl rfl (zw ?_);refine zt ?_;refine LoadV.mem (i:=0) Oa rfl rfl (zw ?_);refine LoadV.mem (i:=0) Oa rfl rfl (zw ?_);refine zt ?_;refine zl H 0 ?_;refine zS H 2 λwa H=>zw ?_;refine zS H 1 λwb H=>zw ?_;refine qi (R:=λr w'=>r=.tuple #[.agg #[ii (dN l:Nat),ii (qez l:Nat),ii (qak l:Nat),ii (ql l:Nat)],fltV 0 0]/\Ext w w') (zw ?_);refine zl H 2 ?_;refine zl H 1 ?_;exact⟨by rw[ah,<-ed];rfl,H.ext⟩
theorem qsu(xs:Ef)(A:oA)(n c i:Nat)(w:DU)(H:SlAt encU 1 w A xs)(U:xs.length=n):
  Gv Eg 241 [.slice A n c,ii i] w λr w'=>r=.int .u64 (xs.getD i 0)/\w'=w:=by
 refine ze Tryz.func241 Tryz.ntmps241 ?_;refine zC (λ_=>zw ?_) (λ_=>zw ?_)
 ·simp_all
 ·refine ElemV.sl H U i rfl Oo ?_;intro b V W;(conv=>whnf);refine LoadV.cell0 W (zw ?_)
  grind
theorem qn7(a b:DV)(w:DU)(ha:a.size<=4194304):
  Gv Eg 150 [.string a,.string b] w λr w'=>r=ii (comL a.data.toList b.data.toList)/\Ext w w':=by
 have la:a.data.toList.length=a.size:=rfl;have lb:b.data.toList.length=b.size:=rfl;refine ze Tryz.func150 Tryz.ntmps150 ?_;refine qk (λi:Nat=>[(0,.string a),(1,.string b),(5,ii i)]) (λi w'=>i<=a.size/\i<=b.size/\(∀j,j<i->a.data.toList[j]?=b.data.toList[j]?)/\Ext w w') (λi=>a.size-i) 0 fq (by grind [Ext.refl]) ?_;rintro i w1 V ⟨i1,i2,U,H⟩;(conv=>whnf);refine zy ?_
 (repeat'(first|refine zp ?_|refine zC (λ_=>zw ?_) (λ_=>zw ?_)))
 all_goals first
  | exact⟨i+1,fq,⟨by omega,by omega,(by grind [qec,UInt8.toNat_inj]),H.drew⟩,by omega⟩
  | exact⟨by rw[quk U Oo Oo λW Z=>by omega],H.drew⟩
  | (refine⟨?_,H.drew⟩;rw[quk U Oo Oo λW Z=>by
    rw[qec Oo,qec Oo];intro e;have:=Ae UInt8.toNat (Bb e);omega])
theorem q3a(l:LB)(A:oA)(c p:Nat)(a b:DV)(w:DU)(V:SlAt encB 1 w A l)(W:l.length<=c)(hl:l.length<=140737488355328)(hp:p<=l.length)(Z:(numL (l.drop p)).1<=4194304)(ha:a.size<=4194304):
  Gv Eg 243 [.slice A l.length c,ii p,.string a,.string b] w λr w'=>r=.bool (decide ((numL (l.drop p)).1=comL a.data.toList b.data.toList))/\Ext w w':=by
 refine ze Tryz.func243 Tryz.ntmps243 ?_;refine SliceV.bs V rfl p l.length c rfl rfl rfl Oo Oo W Oo Js ?_;intro A' H;rw[Am (by rw[zld];exact Ai _)]at H;(conv=>whnf);refine zcv (qch (l.drop p) A' _ _ _ H (by rw[zld]) (by rw[zld];omega)) ?_;rintro r w1 ⟨rfl,rfl⟩;obtain⟨x,U⟩:∃x,x=(numL (l.drop p)).1:=⟨_,rfl⟩
 rw[numV,<-U];rw[<-U]at Z;refine zu ?_;refine zcv (qn7 a b w1 ha) ?_;rintro r w2 ⟨rfl,he⟩;obtain⟨k,ek⟩:∃k,k=comL a.data.toList b.data.toList:=⟨_,rfl⟩
 rw[<-ek];(conv=>whnf);refine⟨Ae Value.bool ?_,he⟩
 grind
theorem q26{m X:LB}{first:Bool}{y:Nat}(h:entG m first ahead=(X,y,0)):∃U H,(first=true->U=0/\H=0)/\(first=false->numL m=(U,H,0))/\H<=m.length/\(numL (m.drop H)).2.2=0/\U<=ahead.length/\(numL (m.drop H)).1<=262144/\U+(numL (m.drop H)).1<=262144/\
  (numL (m.drop H)).1<=m.length-H-(numL (m.drop H)).2.1/\X=ahead.take U++(m.drop (H+(numL (m.drop H)).2.1)).take (numL (m.drop H)).1/\y=H+(numL (m.drop H)).2.1+(numL (m.drop H)).1:=by
 rcases V:(if first then((0,0,0):Nat×Nat×Nat)else numL m)with⟨U,H,q⟩
 have W:=qbi m;rw[entG,V]at h;dsimp only at h
 (repeat' split at h)<;>first
  | (exfalso;grind)
  | (simp only[DM]at h;exact⟨U,H,by grind,by grind,by grind,by omega,by omega,by omega,by omega,by omega,h.1.symm,h.2.1.symm⟩)
theorem qz1(l:LB)(A:oA)(c p:Nat)(first:Bool)(H:DV)(w:DU)(hS:SlAt encB 1 w A l)(hc:l.length<=c)(hl:l.length<=140737488355328)(hp:p<=l.length)(ah:H.size<=262144)(X:DV)(y:Nat)(hX:entG (l.drop p) first H.data.toList=(X.data.toList,y,0)):
  Gv Eg 242 [.slice A l.length c,ii p,.bool first,.string H] w λr w'=>r=.tuple #[.string X,ii (p+y:Nat),ii 0]/\Ext w w':=by
 obtain⟨B,eB⟩:∃B,B=l.drop p:=⟨_,rfl⟩
 have V:B.length=l.length-p:=by rw[eB,zld]
 rw[<-eB]at hX;obtain⟨x1,U,h0,h1,ai,hq,g1,g2,g3,g4,gX,gy⟩:=q26 hX;have aj:=qbi (B.drop U);have W:=λA' k w' (h:SlAt encB 1 w' A' (B.drop U))=>qch (B.drop U) A' (l.length-p-U) k w' h (by rw[zld,V]) (by rw[zld,V];omega)
 rw[numV,hq]at W;obtain⟨Z,ad⟩:∃Z,Z=(numL (B.drop U)).2.1:=⟨_,rfl⟩
 obtain⟨x2,aa⟩:∃x2,x2=(numL (B.drop U)).1:=⟨_,rfl⟩
 rw[<-ad,<-aa,zld,V]at aj;rw[<-ad,<-aa,V]at g4;rw[<-ad,<-aa]at W gX gy;rw[<-aa]at g2 g3;rw[V]at ai;have ak:H.data.toList.length=H.size:=rfl;refine ze Tryz.func242 Tryz.ntmps242 ?_;cases first
 case' false=>
  have h1:=h1 rfl;refine zv ?_;refine SliceV.bs hS rfl p l.length c rfl rfl rfl Oo znr hc znr (λh=>by cases h) ?_;intro A' ae;rw[Am (by rw[zld];exact Ai _),<-eB]at ae;(conv=>whnf);refine zcv (qch B A' _ _ _ ae V Oo) ?_;rintro r w3 ⟨rfl,rfl⟩;rw[numV,h1];dsimp only;conv=>whnf
 case' true=>obtain⟨al,am⟩:=h0 rfl
 all_goals
  refine zv ?_;refine SliceV.bs hS rfl (p+U) l.length c (by first|rfl|(show(_:Int)=_;omega)) rfl rfl Oo znr hc znr (λh=>by cases h) ?_;intro A2 af;rw[Am (by rw[zld];exact Ai _),show l.drop (p+U)=B.drop U from by rw[eB,Ar]]at af;rw[<-Nat.sub_sub];(conv=>whnf);refine zcv (W A2 _ _ af) ?_;rintro r w4 ⟨rfl,rfl⟩;refine zu ?_;have hS:=hS.ext (Ext.refl w4).drew;refine zy ?_;refine zv ?_;refine SliceS.at_ 0 x1 rfl (by show(_:Int)=_;omega) Oo Oo (zu ?_);refine SliceV.bs hS rfl (p+U+Z) (p+U+Z+x2) c (by show(_:Int)=_;omega) (by show(_:Int)=_;omega) rfl Oo Oo Oo znr (λh=>by cases h) ?_;intro A3 ag;refine zu ?_;rw[show((l.drop (p+U+Z)).take (p+U+Z+x2-(p+U+Z)))=(B.drop (U+Z)).take x2 by rw[eB,Ar,BJ,C7]]at ag;refine BytesS.sl ag (by rw[Az,zld];omega) (zu ?_);have z1:(H.extract 0 x1).size=x1:=by rw[BM];omega
  have z2:(⟨((B.drop (U+Z)).take x2).toArray⟩:DV).size=x2:=by
   show(List.toArray _).size=_;rw[Ct,Az,zld];omega
  refine Obl.mk (by rw[z1,z2];omega) ?_;rw[show H.extract 0 x1++⟨((B.drop (U+Z)).take x2).toArray⟩=X by
   apply ByteArray.ext;rw[<-BA,Dv,Cy,gX];simp]
  refine zu ?_;exact⟨Ae (λz:Int=>Value.tuple #[.string X,ii z,ii 0]) Oo,xr.drew⟩
theorem V.Rw.slAt{V:Type}{f:V->DZ}{H:V->Ee}{n:Nat}{l:List V}(W:∀x,H x=[f x])(h:Rw w0 w (.slice A n c) e 1 n (l.map f) L)(hn:l.length=n):SlAt H 1 w A l:=by
 refine⟨λZ=>?_⟩;obtain⟨g,rfl,_,_,_,hc⟩:=h.cells (by grind);refine⟨g,0,rfl,λj x hx k v U=>?_⟩;rw[W]at U;cases k with
 | succ k=>simp at U
 | zero=>
  simp only[AT,AR]at U;subst U;have:=hc j (f x) (by simp_all)
  simp_all
theorem qadg{V:Type}{f:V->DZ}{H:V->Ee}{e n:Nat}{l:List V}(he:∀x,H x=[f x])(h:w.ownsRow base e 1 (.slice A n c) n (l.map f)):SlAt H 1 w A l:=by
 refine⟨λaa=>?_⟩
 rcases h.2 with⟨Z,h2⟩|⟨g,ad,W,Z,_,h3,_,_,_,h7⟩
 ·have:=h.1
  simp_all
 ·cases Z;refine⟨g,0,rfl,λj x hx k v U=>?_⟩;rw[he]at U;cases k with
  | succ k=>simp at U
  | zero=>
   simp only[AT,AR]at U;subst U;have hj:(W.toList.take (n*1))[j]?=some (f x):=by simp_all
   grind [qa]
theorem qif{e H n:Nat}{v:DZ}(h:w.ownsRow b' e H v n xs)(hb:b<=b'):w.ownsRow b e H v n xs:=by
 refine⟨h.1,?_⟩
 rcases h.2 with h|⟨g,U,V,W,h2,Z⟩
 ·exact .inl h
 ·exact .inr ⟨g,U,V,W,Oo,Z⟩
theorem V.Mem.row{H U:DU}{e n:Nat}{v:DZ}(W:Mem w H L)(Z:Ext H U)(ho:U.ownsRow base e 1 v n xs)(hb:H.heap.size<=base):∃R,Mem w U (L++R)/\RowB e xs R v:=by
 have hl:=ho.1;rw[AZ]at hl
 rcases ho.2 with⟨h1,h2⟩|⟨g,aa,V,rfl,h2,h3,h4,h5,h6,h7⟩
 ·refine⟨[],by rw[B4];exact W.call Z,⟨.inl ⟨h1,?_⟩⟩⟩
  simp_all
 ·refine⟨[(g,.cells V e)],?_,⟨(by grind)⟩⟩;have:=W.fresh Z Oo h3;exact this.perm Js
theorem V.RowB.slf{W:Type}{f:W->DZ}{H:W->Ee}{R:Ed}{n:Nat}{l:List W}(Z:∀x,H x=[f x])(h:RowB e (l.map f) R (.slice A n c))(hm:Mem w0 w L)(hR:∀x∈R,x∈L):SlAt H 1 w A l:=by
 refine⟨λad=>?_⟩
 rcases h.h with⟨_,h0⟩|⟨g,ae,aa,hv,hg,h1,_,_,h4⟩
 ·simp_all
 ·cases hv;refine⟨g,0,rfl,λj x hx k u U=>?_⟩;rw[Z]at U;cases k with
  | succ k=>simp at U
  | zero=>
   simp only[AT,AR]at U;subst U;have V:(aa.toList.take (l.map f).length)[j]?=some (f x):=by simp_all
   rw[BE]at V
   split at V
   ·rw[qa (hm.get (hR _ hg))]
    simpa using V
   ·cases V
theorem qnm(xs:Ef)(A:oA)(n c:Nat)(w:DU)(W:SlAt encU 1 w A xs)(Z:xs.length=n)(hx:∀x∈xs,x<18446744073709551616)(hb:n<=4194304):
  Gv Eg 87 [.slice A n c] w λr w'=>r=ii (wMx xs n)/\w'=w:=by
 refine ze Tryz.func87 Tryz.ntmps87 ?_;refine qk (λx:Nat×Nat=>[(0,.slice A n c),(3,ii x.2),(4,ii x.1)]) (λx w'=>x.1<=n/\x.2<=64/\x.2=wMx xs x.1/\w'=w) (λx=>n-x.1) (0,0) fq ⟨Ag _,by simp,rfl,rfl⟩ ?_;rintro⟨i,m⟩ w1 aa ⟨i1,m1,m2,rfl⟩;dsimp only at i1 m1 m2|-;(conv=>whnf);refine zC (λ_=>zw ?_) (λ_=>zw ?_)
 ·refine ElemV.sl W Z i rfl Oo ?_;intro b ad hc;(conv=>whnf);refine LoadV.cell0 hc (zw ?_);have U:=hx _ (AH (l:=xs) (n:=i) Oo);refine zcv (qel xs[i] _ U) ?_;rintro r w2 ⟨rfl,rfl⟩;have hw:=qcq 64 xs[i] Oo Od;(conv=>whnf);refine V.Fall.max2 rfl rfl rfl λq hq=>?_;obtain⟨H,rfl⟩:∃H:Nat,q=(H:Int):=(by grind)
  refine zu ?_;have ae:H=wMx xs (i+1):=by
   grind [wMx]
  exact⟨(i+1,H),fq,(by grind),by omega⟩
 grind
def encO(b:Bool):Ee:=[.bool b]
def bitL(l:LB)(n:Nat):List Bool:=(List.range n).map λi=>decide (bitN (vD l) i=1)
theorem qais:Eg.underlying 24=some (.slice 4):=Tryz.underlying24
theorem booI:Eg.info? 4=some ((Eg.info? 4).get Jk):=(Bt _).symm
theorem booZ:((Eg.info? 4).get Jk).zero=some (.bool false):=by kernel_rfl
theorem qzu(l:LB)(A:oA)(n c:Nat)(w:DU)(hS:SlAt encB 1 w A l)(hn:l.length=n)(hc:n<=c)(h8:8<=l.length)(hv:vN l<=67108864)(hg:qz (vN l)<=l.length)(hl:l.length<=67108864):
  Gv Eg 319 [.slice A n c] w λv w'=>w'.ownsRow w.heap.size 4 1 v (vN l) ((bitL l (vN l)).map Value.bool)/\Ext w w':=by
 have aa:qz (vN l)=8+upN (vN l) 8:=rfl;have W:(vD l).length=upN (vN l) 8:=by grind [vD]
 have ad:vN l<=8*(vD l).length:=by grind [upN]
 refine ze Tryz.func319 Tryz.ntmps319 ?_;refine zcv (qc5 l A n c w hS hn h8 Oo) ?_;rintro r w1 ⟨rfl,H⟩;(conv=>whnf);refine zcv (qr1 l A n c w1 (hS.ext H) hn hc h8 hv hg Oo) ?_;rintro r w2 ⟨⟨B,d,rfl,hD⟩,U⟩;(conv=>whnf);refine qk (λx:Nat×oA×Nat=>[(3,ii (vN l)),(5,.slice B (upN (vN l) 8) d),(6,.slice x.2.1 x.1 x.2.2),(7,ii x.1)])
  (λx w'=>x.1<=vN l/\Rw w2 w' (.slice x.2.1 x.1 x.2.2) 4 1 x.1 ((bitL l x.1).map Value.bool) []) (λx=>vN l-x.1) (0,none,0) fq ⟨Ag _,Rw.nil (Mem.nil w2)⟩ ?_
 rintro⟨i,C,cc⟩ w3 ae ⟨i1,V⟩;dsimp only at i1 V|-;(conv=>whnf);refine zC (λ_=>zw ?_) (λ_=>zw ?_)
 ·refine zcv (qkm (vD l) B _ d i _ (hD.ext V.mem.ext) W Oo Oo) ?_;rintro r w4 ⟨rfl,rfl⟩;(conv=>whnf);refine NewV.rw V λnb w5 Z=>zw ?_;refine AppV.one qais booI booZ Jk rfl (by decide +kernel) Z rfl Oo ?_;intro B' d' w6 af;refine zu ?_;refine⟨(i+1,B',d'),fq,⟨by omega,?_⟩,by omega⟩
  grind [bitL,List.range_succ]
 ·obtain rfl:i=vN l:=by omega
  exact⟨qif V.own (H.trans U).size,H.trans (U.trans V.mem.ext)⟩
def VcR(l:LB)(k base:Nat)(v:DZ)(w:DU):Prop:=
 LvlV l k/\∃B H,v=.tuple #[.slice B (vNum l k) H,fltV 0 0]/\w.ownsRow base 4 1 (.slice B (vNum l k) H) (vNum l k) ((bitL (qe l k) (vNum l k)).map Value.bool)
theorem qwp(l:LB)(A:oA)(c k:Nat)(F:Nat->Int)(w:DU)(hS:SlAt encB 1 w A l)(hc:l.length<=c)(hl:l.length<=67108864)(hF:HdF l F)(hT:(tE l).2=0)(hk:1<=k)(aw:k<=3)(hV:(vcE l k).2=0):
  Gv Eg 245 [.slice A l.length c,hdV F,ii k] w λv w'=>VcR l k w.heap.size v w'/\Ext w w':=by
 have aa:(errF (tcF l) 4).2=0/\(errF (tvF l) 4).2=0:=by
  grind [tE]
 have hz:=qan aa.1;have hv:=qan aa.2;obtain⟨z1,z2,z3⟩:=qix (hv k Oo);have ax:=qis (hz k Oo);have av:=qis (hz (k-1) Oo);have ad:=qrf (hz k Oo) Oo;have ay:=qnl (vNum l k) (vNum l (k-1)) Oo ad;have t2:tEnd l k<=tvAt l (k+1):=by rw[qbb];omega
 have U:(qe l k).length=tvAt l (k+1)-tEnd l k:=by grind [qe]
 have az:tvAt l (k+1)=tEnd l k+qbe (vNum l k) (vNum l (k-1)):=by grind [qbb]
 have ae:tVec l k=true:=by grind [vcE]
 have af:(voE (qe l k)).2=0:=by grind [vcE]
 have al:0<vNum l k->bitN ((qe l k).drop 8) (vNum l k-1)=1:=by grind [vcE]
 obtain⟨e1,e2⟩:vN (qe l k)=vNum l k/\vM (qe l k)=vNum l (k-1):=CE λh=>by rw[qahv h]at ae;cases ae
 refine ze Tryz.func245 Tryz.ntmps245 ?_;refine znm (Mem.nil w) ?_;intro hb w1 H;have H:Mem w w1 [(hb,.cells (fnA 13 (inF F)) 118)]:=H;(conv=>whnf);refine znm H ?_;intro rb w2 H;have H:Mem w w2 [(rb,.cells #[ii 0,ii 0] 120),(hb,.cells (fnA 13 (inF F)) 118)]:=H;refine zu ?_;refine LoadV.fi (x:=((tEnd l k:Nat):Int)) H (i:=1) rfl (8+k) (by rw[show tsz Eg 3=1 from by kernel_rfl];dsimp only;omega) Oo (hF.v k Oo) (zw ?_);refine DrawV.free Jk Jk (zw ?_);(iterate 4 (refine zd ?_));apply zsd
 ·intro wd hd;(conv=>whnf);refine LoadV.fi (x:=((vNum l k:Nat):Int)) (Mem.call (Mem.drew H) hd) (i:=1) rfl k (by rw[show tsz Eg 3=1 from by kernel_rfl];dsimp only;omega) Oo (hF.c k Oo) (zw ?_);exact xq
 (conv=>whnf);(iterate 3 (refine zd ?_));apply zsd
 ·intro wd hd;(conv=>whnf);refine IdxV.at_ (k-1) Oo Oo (zw ?_);exact xq
 (conv=>whnf);apply zsd
 ·intro wd hd;(conv=>whnf);refine LoadV.fi (x:=((vNum l (k-1):Nat):Int)) (Mem.call (Mem.drew H) hd) (i:=1) rfl (k-1) (by rw[show tsz Eg 3=1 from by kernel_rfl];dsimp only;omega) Oo (hF.c (k-1) Oo) (zw ?_);exact xq
 (conv=>whnf);apply zsd
 ·intro wd hd;(conv=>whnf);refine zcv (qjt (vNum l k) (vNum l (k-1)) wd Oo ad) ?_;rintro v w9 ⟨rfl,h9⟩;exact⟨h9,rfl⟩
 (conv=>whnf);refine zd ?_;refine zd ?_;intro w3 am
 (repeat(intro _ _;(conv=>whnf)))
 (conv=>whnf);have H:=H.drew.call am;refine SliceV.to (tEnd l k) (tvAt l (k+1)) c rfl (by show(_:Int)=_;omega) rfl Oo Oo Oo (λh=>by cases h) ?_;obtain⟨B,eB⟩:∃B,B=(if c=tEnd l k then A else A.map (·.add (tEnd l k*1))):=⟨_,rfl⟩
 have ag:SlAt encB 1 w B (qe l k):=by rw[eB];exact hS.cut (m:=c) Oo Oo Oo rfl
 rw[show tsz Eg 5=1 from by kernel_rfl,<-eB];have Z:=ag.ext H.ext;have a0:8<=qbe (vNum l k) (vNum l (k-1)):=by unfold qbe qcs qa6 qz;omega
 (conv=>whnf);refine zcv (qc5 (qe l k) B _ _ w3 Z U Oo Oo) ?_;rintro r w4 ⟨rfl,ah⟩;have H:=H.call ah;have Z:=Z.ext ah;refine zu ?_;refine LoadV.fi (x:=((vNum l k:Nat):Int)) H (i:=1) rfl k (by rw[show tsz Eg 3=1 from by kernel_rfl];dsimp only;omega) Oo (hF.c k Oo) (zu ?_);refine IdxV.at_ (k-1) Oo Oo (zu ?_);refine LoadV.fi (x:=((vNum l (k-1):Nat):Int)) H (i:=1) rfl (k-1) (by rw[show tsz Eg 3=1 from by kernel_rfl];dsimp only;omega) Oo (hF.c (k-1) Oo) (zu ?_);have ai:vOk (qe l k)=true:=by
  grind [vOk]
 refine zcv (q7p (qe l k) B _ _ w4 Z U Oo Oo ai af) ?_;rintro r w5 ⟨rfl,aj⟩;have an:=VecOk.voE ai af;have H:=H.call aj;have Z:=Z.ext aj;(conv=>whnf);refine znm H λfb w6 H=>zw ?_;refine zS H 0 λw7 H=>zw ?_;refine zr H 0 ?_;refine zv ?_;have H:=H.sub (AS ..);have ao:qz (vN (qe l k))<=(qe l k).length:=by grind [qbe,qcs,qa6]
 refine zcv (qzu (qe l k) B _ _ w7 (ag.ext H.ext) U Oo Oo Oo ao Oo) ?_;rintro r w8 ⟨hO,aq⟩;obtain⟨C,cb,rfl⟩:=qbm hO;have W:=qif hO H.ext.size;have H:=H.call aq;rw[e1]at W;rw[e1];have hC:SlAt encO 1 w8 C (bitL (qe l k) (vNum l k)):=qadg (λ_=>rfl) W;have ar:(bitL (qe l k) (vNum l k)).length=vNum l k:=by simp[bitL]
 (conv=>whnf);refine zC (λ_=>zu ?_) (λ_=>zu ?_);refine ElemV.sl hC ar (vNum l k-1) Oo Oo ?_;intro eb eo V;have au:(bitL (qe l k) (vNum l k))[vNum l k-1]' Oo=true:=by grind [bitL,vD,qdk,upN]
 rw[au]at V;refine zu ?_;refine LoadV.cell0 V (zu ?_)
 all_goals
  refine StoreA.same (H.get mh) rfl Od ?_;intro w9 ak;have H:=H.call ak;(conv=>whnf);refine qi (R:=λv w'=>VcR l k w.heap.size v w'/\Ext w w') (zw ?_);refine zl H 0 ?_;exact⟨⟨⟨an,e1,e2,al⟩,C,cb,rfl,qcf W ak⟩,H.ext⟩
theorem qt1(h:(tE l).2=0):(∀k,k<4->(tcF l k).2=0)/\∀k,k<4->(tvF l k).2=0:=⟨(qwb h).1,(qwb h).2.1⟩
theorem OpS.ext{p:LB}{n:Nat}{v:DZ}(h:OpS p n wd b' v w)(H:Ext w w')(U:base<=b'):OpS p n wd base v w':=
 let⟨A,k,c,V,W,Z,h4⟩:=h
 ⟨A,k,c,V,W,Z,qif (qcf h4 H) U⟩
theorem OpR.ext{p:LB}{n:Nat}{v:DZ}(h:OpR p n wd b' v w)(H:Ext w w')(U:base<=b'):OpR p n wd base v w':=
 let⟨A,k,c,V,W⟩:=h
 ⟨A,k,c,V,W.ext H U⟩
theorem qc0(p:LB)(n wd:Nat):(unpN p n wd).length=n:=by simp[unpN]
theorem q7b{p:LB}{n x:Nat}(h:x∈unpN p n wd):x<2 ^ wd:=by
 obtain⟨i,_,rfl⟩:=AF.1 h;exact qj3 _ _ _
theorem qaa4{v:DZ}{n:Nat}(H:Mem w0 w L)(W:Ext w w')(h:w'.ownsRow w.heap.size e 1 v n xs):Rw w0 w' v e 1 n xs L:=by
 refine⟨H.call W,⟨h.1,h.2.imp id λ⟨g,U,V,Z,hb,r⟩=>⟨g,U,V,Z,AI H.ext.size hb,r⟩⟩,λx hx e=>?_⟩;have h1:=(h.lt x.1 e).1;have h2:=H.lt (b:=x.1) (o:=x.2) hx;omega
theorem q7d(p:LB){n:Nat}(h:i<n):(unpV p n 0).take (i+1)=(unpV p n 0).take i++[.int .u64 0]:=by
 rw[BD,unpV,unpN,Ao,Ao,Bu h];rfl
theorem qah3:Eg.underlying 169=some (.slice 164):=Tryz.underlying169
theorem u64I:Eg.info? 164=some ((Eg.info? 164).get Jk):=(Bt _).symm
theorem u64Z:((Eg.info? 164).get Jk).zero=some (.int .u64 0):=by kernel_rfl
theorem V.Rw.rowB{v:DZ}{n:Nat}(h:Rw w0 w v e 1 n xs L):∃R,Mem w0 w (L++R)/\RowB e xs R v:=by
 have V:=h.own.1;rw[AZ]at V
 rcases h.own.2 with⟨h1,Z⟩|⟨g,W,H,rfl,Z,h3,h4,h5,h6,h7⟩
 ·refine⟨[],by rw[B4];exact h.mem,⟨.inl ⟨h1,?_⟩⟩⟩;exact Bg Oo
 ·refine⟨[(g,.cells H e)],?_,⟨.inr ⟨g,W,H,by rw[V],AV ..,by omega,h5,by rw[AZ]at h6;exact h6,by rw[V];rw[AZ]at h7;exact h7⟩⟩⟩;have:Mem w0 w ((g,.cells H e)::L):=by
   refine⟨h.mem.ext,λx U=>?_,?_⟩
   ·rcases AB.1 U with rfl|U
    ·exact⟨Z,h3⟩
    ·exact h.mem.own x U
   ·simp only[AK,CR];refine⟨λhm=>?_,h.mem.nodup⟩;obtain⟨x,U,e⟩:=AF.1 hm;exact h.apart x U (by rw[e];rfl)
  exact this.perm (Au (l₁:=L) (l₂:=[(g,Obj.cells H e)]))
theorem V.RowB.left{R:Ed}{v:DZ}(h:RowB e xs R v):RowB e xs (L++R) v:=h.keep λ_ H _=>Ac _ H
theorem V.RowB.right{R:Ed}{v:DZ}(h:RowB e xs L v):RowB e xs (L++R) v:=h.keep λ_ H _=>Aj _ H
theorem V.RowB.more{R:Ed}{x:Nat×Obj}{v:DZ}(h:RowB e xs R v):RowB e xs (x::R) v:=h.keep λ_ H _=>zmc H
def LvR(l:LB)(k:Nat)(w0:DU)(v:DZ)(w:DU):Prop:=
 (0<k->LvlV l k)/\∃A U B H V R bs,v=.tuple #[.agg #[.slice A (vNum l k) U,.slice B H V],fltV 0 0]/\Mem w0 w R/\RowB 164 (unpV (qg l k) (vNum l k) (tw l k)) R (.slice A (vNum l k) U)/\RowB 4 (bs.map Value.bool) R (.slice B H V)/\(0<k->H=vNum l k/\bs=bitL (qe l k) (vNum l k))
theorem qrj(h:i<(unpN (qg l k) (vNum l k) (tw l k)).length):(unpN (qg l k) (vNum l k) (tw l k))[i]=tX l k i:=by simp[unpN,tX]
theorem qajr(h:(nmF l k i).2=0):(k≠0->tX l k i≠0)/\tX l k i<=4194304/\¬(0<i/\(k=0\/bitN ((qe l k).drop 8) (i-1)≠1)/\tX l k i<=tX l k (i-1)):=by grind [nmF]
theorem q5k(l:LB)(A:oA)(c k:Nat)(F:Nat->Int)(w:DU)(hS:SlAt encB 1 w A l)(hc:l.length<=c)(hl:l.length<=67108864)(hF:HdF l F)(hT:(tE l).2=0)(an:k<4)(hZ:(lvE l k).2=0):
  Gv Eg 174 [.slice A l.length c,hdV F,ii k] w λv w'=>LvR l k w v w':=by
 obtain⟨hz,W,_⟩:=qwb hT;obtain⟨hE,aw,ax,ay⟩:=qh6 hZ;obtain⟨z1,z2,z3⟩:=qix (W k an);have a8:=qis (hz k an);have t1:tvAt l k+1<=tEnd l k:=by show _<=tvAt l k+1+_;omega
 have t2:tEnd l k<=tvAt l (k+1):=by rw[qbb];omega
 have ag:(qg l k).length=tEnd l k-(tvAt l k+1):=by rw[qg,Az,zld];omega
 have ai:(qg l k).length=(vNum l k*tw l k+7)/8:=by rw[ag];show tvAt l k+1+(vNum l k*tw l k+7)/8-_=_;omega
 have ah:=λw' (az:SlAt encB 1 w' A l) (h1:1<=k)=>qwp l A c k F w' az hc hl hF hT h1 Oo (ax.resolve_left Oo)
 refine ze Tryz.func174 Tryz.ntmps174 ?_;refine znm (Mem.nil w) ?_;intro Z w1 H;have H:Mem w w1 [(Z,.cells (fnA 13 (inF F)) 118)]:=H;(conv=>whnf);refine znm H λr6 w2 H=>zw ?_;refine znm H λr7 w3 H=>zu ?_;refine LoadV.fi (x:=((tvAt l k:Nat):Int)) H (i:=2) rfl (4+k) (by rw[show tsz Eg 3=1 from by kernel_rfl];dsimp only;omega) Oo (hF.w k Oo) (zw ?_);refine ElemV.bs (hS.ext H.ext) rfl (tvAt l k) rfl Oo ?_;intro eb eo ao;have hw:l[tvAt l k].toNat=tw l k:=by rw[tw,Ah,zge z1];rfl
 have a9:tw l k<256:=by rw[<-hw];exact q8 _
 rw[hw]at ao;(conv=>whnf);refine LoadV.of ao (zu ?_);refine znm H λlb w4 H=>zw ?_;refine zS H 0 ?_;intro w5 H;have H:Mem w w5 [(lb,.cells #[.slice none 0 0,.slice none 0 0] 171),(r7,.cells #[ii 0,ii 0] 120),(r6,.cells #[.slice none 0 0,.slice none 0 0] 171),(Z,.cells (fnA 13 (inF F)) 118)]:=H;(conv=>whnf);obtain⟨P,eP⟩:∃P,P=(if c=tvAt l k+1 then A else A.map (·.add ((tvAt l k+1)*1))):=⟨_,rfl⟩
 have hP:SlAt encB 1 w P (qg l k):=by rw[eP];exact hS.cut (m:=c) Oo Oo Oo rfl
 refine DrawV.free Jk Jk (zw ?_);(iterate 6 (refine zd ?_));apply zsd
 ·intro wd hd;(conv=>whnf);refine LoadV.fi (x:=((tEnd l k:Nat):Int)) (Mem.call (Mem.drew H) hd) (i:=3) rfl (8+k) (by rw[show tsz Eg 3=1 from by kernel_rfl];dsimp only;omega) Oo (hF.v k Oo) (zw ?_);exact xq
 (conv=>whnf);refine zsd (.slice P (tEnd l k-(tvAt l k+1)) (c-(tvAt l k+1))) (λwd hd=>zw ?_) (zw ?_)
 ·refine SliceV.to (tvAt l k+1) (tEnd l k) c (by show(_:Int)=_;omega) rfl rfl Oo Oo znr (λh=>by cases h) ?_;rw[show tsz Eg 5=1 from by kernel_rfl,<-eP];(conv=>whnf);exact xq
 (iterate 3 (refine zd ?_));apply zsd
 ·intro wd hd;(conv=>whnf);refine LoadV.fi (x:=((vNum l k:Nat):Int)) (Mem.call (Mem.drew H) hd) (i:=3) rfl k (by rw[show tsz Eg 3=1 from by kernel_rfl];dsimp only;omega) Oo (hF.c k Oo) (zw ?_);exact xq
 (conv=>whnf);refine zd ?_;apply StepD.of (λv wx=>OpR (qg l k) (vNum l k) (tw l k) w5.heap.size v wx) (λ_ _ _ h he=>h.ext he znr)
 ·intro wd hd;(conv=>whnf);have:=qy2 (qg l k) P (c-(tvAt l k+1)) (vNum l k) (tw l k) wd (hP.ext (H.drew.ext.trans hd)) ai Oo Oo hE;rw[ag]at this;refine zcv (this) ?_;rintro v w9 ⟨h1,h2⟩;exact⟨h2,h1.ext xr hd.size⟩
 (conv=>whnf);apply StepD.of (λv wx=>OpR (qg l k) (vNum l k) (tw l k) w5.heap.size v wx) (λ_ _ _ h he=>h.ext he znr)
 ·intro wd hd;(conv=>whnf);rintro v W;obtain⟨A1,k1,c1,rfl,hs⟩:=id W;(conv=>whnf);exact⟨xr,W⟩
 (conv=>whnf);apply StepD.of (λv wx=>OpS (qg l k) (vNum l k) (tw l k) w5.heap.size v wx) (λ_ _ _ h he=>h.ext he znr)
 ·intro wd hd;(conv=>whnf);rintro v W;obtain⟨A1,k1,c1,rfl,hs⟩:=id W;conv=>whnf
  (try (rintro v2 aj;(conv=>whnf)))
  exact⟨xr,hs⟩
 (conv=>whnf);apply zsd (ii 0)
 ·intro wd hd;conv=>whnf
  (repeat(rintro v W;(try obtain⟨A1,k1,c1,rfl,hs⟩:=id W);(conv=>whnf)))
  exact xq
 (conv=>whnf);apply StepD.of (λv wx=>OpS (qg l k) (vNum l k) (tw l k) w5.heap.size v wx) (λ_ _ _ h he=>h.ext he znr)
 ·intro wd hd;(conv=>whnf);rintro v W;obtain⟨A1,k1,c1,rfl,_⟩:=id W;conv=>whnf
  (repeat(rintro v2 aj;(first|obtain⟨A2,k2,c2,rfl,hs⟩:=id aj|obtain⟨A2,k2,c2,rfl,_⟩:=id aj);(conv=>whnf)))
  exact⟨xr,by assumption⟩
 (conv=>whnf);apply zsd (ii 0)
 ·intro wd hd;conv=>whnf
  (repeat(rintro v W;(try obtain⟨A1,k1,c1,rfl,_⟩:=id W);(conv=>whnf)))
  exact xq
 (conv=>whnf);intro w6 a0;(conv=>whnf);rintro v W;conv=>whnf
 (repeat(rintro _ _;(conv=>whnf)))
 obtain⟨A1,k1,c1,rfl,_⟩:=id W;have hP:=hP.ext H.ext;obtain⟨_,_,_,e1,aq,ar,W⟩:=W;cases e1;have hR:=qaa4 H (xr.drew.trans a0) W;clear H W;refine zv ?_;refine qk (λx:Nat×oA×Nat=>[(0,.slice A l.length c),(2,ii k),(4,pp Z),(6,pp r6),(7,pp r7),(8,ii (tvAt l k)),(9,ii (tw l k)),(10,pp lb),(11,.slice x.2.1 x.1 x.2.2)])
  (λx w'=>x.1<=vNum l k/\(tw l k≠0->x.1=vNum l k)/\Rw w w' (.slice x.2.1 x.1 x.2.2) 164 1 x.1 ((unpV (qg l k) (vNum l k) (tw l k)).take x.1) [(lb,.cells #[.slice none 0 0,.slice none 0 0] 171),(r7,.cells #[ii 0,ii 0] 120),(r6,.cells #[.slice none 0 0,.slice none 0 0] 171),(Z,.cells (fnA 13 (inF F)) 118)]) (λx=>vNum l k-x.1) (k1,A1,c1) fq ⟨aq,ar,hR⟩ ?_
 clear hR aq ar;rintro⟨i,C,cc⟩ w7 ba ⟨i1,i2,hR⟩;dsimp only at i1 i2 hR|-;have H:=hR.mem;refine zu ?_;refine LoadV.fi (x:=((vNum l k:Nat):Int)) H (i:=3) rfl k (by rw[show tsz Eg 3=1 from by kernel_rfl];dsimp only;omega) Oo (hF.c k Oo) (zw ?_);refine zC (λ_=>zw ?_) (λ_=>zw ?_)
 ·refine NewV.rw hR λnb w8 a1=>zw ?_;refine AppV.one qah3 u64I u64Z Jk rfl (by decide +kernel) a1 rfl Oo ?_;intro B' d' w9 a2;(conv=>whnf);refine⟨(i+1,B',d'),fq,⟨by simp only;omega,λh=>by simp only;have:=i2 h;omega,?_⟩,by simp only;omega⟩;have h0:tw l k=0:=by
   rcases B9 (tw l k)with h|h
   ·exact h
   ·have:=i2 Oo;omega
  have e:(unpV (qg l k) (vNum l k) (tw l k)).take (i+1)=(unpV (qg l k) (vNum l k) (tw l k)).take i++[.int .u64 0]:=by
   rw[h0];exact q7d _ Oo
  simp only;rw[e];exact a2
 obtain rfl:i=vNum l k:=by omega
 rw[Am (by rw[qk9];exact Ai _)]at hR;have hC:SlAt encU 1 w7 C (unpN (qg l k) (vNum l k) (tw l k)):=V.Rw.slAt (f:=λx:Nat=>Value.int .u64 (x:Int)) (λ_=>rfl) hR (qc0 ..);have a3:∀x∈unpN (qg l k) (vNum l k) (tw l k),x<8388608:=λx hx=>Bf (q7b hx) (AY Od z2:2 ^ tw l k<=2 ^ 23)
 obtain⟨R,H,hB⟩:=V.Rw.rowB hR;have H:Mem w w7 ((lb,.cells #[.slice none 0 0,.slice none 0 0] 171)::(r7,.cells #[ii 0,ii 0] 120)::(r6,.cells #[.slice none 0 0,.slice none 0 0] 171)::(Z,.cells (fnA 13 (inF F)) 118)::R):=H;clear hR;refine zcv (qnm _ C (vNum l k) cc w7 hC (qc0 ..) (λx hx=>by have:=a3 x hx;omega) Oo) ?_;rintro r w8 ⟨rfl,rfl⟩;rw[aw];refine zu ?_;refine StoreV.mem H (i:=0) rfl Od rfl ?_;intro w9 H;have H:Mem w w9 ((lb,.cells #[.slice C (vNum l k) cc,.slice none 0 0] 171)::(r7,.cells #[ii 0,ii 0] 120)::(r6,.cells #[.slice none 0 0,.slice none 0 0] 171)::(Z,.cells (fnA 13 (inF F)) 118)::R):=H;(conv=>whnf);refine if bb:k=0 then ?cA else ?cB
 case' cB=>
  refine zu ?_;refine zl H 3 ?_;refine zcv (ah w9 (hS.ext H.ext) Oo) ?_;rintro r a4 ⟨⟨ak,B,cb,rfl,hO⟩,au⟩;obtain⟨R2,H,aa⟩:=V.Mem.row H au hO znr;have H:Mem w a4 ((lb,.cells #[.slice C (vNum l k) cc,.slice none 0 0] 171)::(r7,.cells #[ii 0,ii 0] 120)::(r6,.cells #[.slice none 0 0,.slice none 0 0] 171)::(Z,.cells (fnA 13 (inF F)) 118)::(R++R2)):=H;have ae:RowB 164 (unpV (qg l k) (vNum l k) (tw l k)) (R++R2) (.slice C (vNum l k) cc):=V.RowB.right hB;have aa:RowB 4 ((bitL (qe l k) (vNum l k)).map Value.bool) (R++R2) (.slice B (vNum l k) cb):=V.RowB.left aa;generalize R++R2=R3 at H ae aa;clear hO hB;(conv=>whnf);refine znm H λfb be H=>zw ?_;refine zS H 0 λbf H=>zw ?_;refine zr H 0 ?_;refine zv ?_;have H:=H.sub (AS ..);refine StoreV.mem H (i:=0) rfl (show 1<2 by decide) rfl ?_;intro av H;have H:Mem w av ((lb,.cells #[.slice C (vNum l k) cc,.slice B (vNum l k) cb] 171)::(r7,.cells #[ii 0,ii 0] 120)::(r6,.cells #[.slice none 0 0,.slice none 0 0] 171)::(Z,.cells (fnA 13 (inF F)) 118)::R3):=H;(conv=>whnf);have H:∃B nb cb bs R3,Mem w av ((lb,.cells #[.slice C (vNum l k) cc,.slice B nb cb] 171)::(r7,.cells #[ii 0,ii 0] 120)::(r6,.cells #[.slice none 0 0,.slice none 0 0] 171)::(Z,.cells (fnA 13 (inF F)) 118)::R3)/\RowB 164 (unpV (qg l k) (vNum l k) (tw l k)) R3 (.slice C (vNum l k) cc)/\RowB 4 (bs.map Value.bool) R3 (.slice B nb cb)/\(0<k->LvlV l k/\nb=vNum l k/\bs=bitL (qe l k) (vNum l k)):=⟨_,_,_,_,_,H,ae,aa,λ_=>⟨ak,rfl,rfl⟩⟩
 case' cA=>
  have H:∃B nb cb bs R3,Mem w w9 ((lb,.cells #[.slice C (vNum l k) cc,.slice B nb cb] 171)::(r7,.cells #[ii 0,ii 0] 120)::(r6,.cells #[.slice none 0 0,.slice none 0 0] 171)::(Z,.cells (fnA 13 (inF F)) 118)::R3)/\RowB 164 (unpV (qg l k) (vNum l k) (tw l k)) R3 (.slice C (vNum l k) cc)/\RowB 4 (bs.map Value.bool) R3 (.slice B nb cb)/\(0<k->LvlV l k/\nb=vNum l k/\bs=bitL (qe l k) (vNum l k)):=⟨_,_,_,[],_,H,hB,RowB.nil _ _,λh=>absurd h Oo⟩
  refine zu ?_
 all_goals
  clear ah;obtain⟨B,nb,cb,bs,R3,H,ae,aa,al⟩:=H;refine qk (λi:Nat=>[(2,ii k),(6,pp r6),(7,pp r7),(8,ii (tvAt l k)),(10,pp lb),(11,.slice C (vNum l k) cc),(15,ii i)])
   (λi w'=>i<=vNum l k/\Mem w w' ((lb,.cells #[.slice C (vNum l k) cc,.slice B nb cb] 171)::(r7,.cells #[ii 0,ii 0] 120)::(r6,.cells #[.slice none 0 0,.slice none 0 0] 171)::(Z,.cells (fnA 13 (inF F)) 118)::R3)) (λi=>vNum l k-i) 0 fq ⟨Ag _,H⟩ ?_
  clear H;rintro i af bg ⟨i1,H⟩;have ad:SlAt encU 1 af C (unpN (qg l k) (vNum l k) (tw l k)):=V.RowB.slf (f:=λx:Nat=>Value.int .u64 (x:Int)) (λ_=>rfl) ae H (λx hx=>by simp[hx]);have am:SlAt encO 1 af B bs:=V.RowB.slf (f:=Value.bool) (λ_=>rfl) aa H (λx hx=>by simp[hx]);have a5:=λh=>qajr (ay i h)
  (conv=>whnf)
  (repeat'(first|refine zp ?_|refine zC (λ_=>zw ?_) (λ_=>zw ?_)))
  ·obtain⟨bh,bi,bj⟩:=a5 Oo;refine ElemV.sl ad (qc0 ..) i Oo Oo ?_;intro eb eo U;rw[qrj]at U;refine zu ?_;refine LoadV.cell0 U (zu ?_)
   try
    refine ElemV.sl ad (qc0 ..) i Oo Oo ?_;intro eb eo U;rw[qrj]at U;refine zu ?_;refine LoadV.cell0 U (zu ?_)
   have H:=H.drew;have ad:=ad.ext (Ext.refl af).drew;have am:=am.ext (Ext.refl af).drew;refine zy ?_
   (repeat'(first|refine zp ?_|refine zC (λ_=>zw ?_) (λ_=>zw ?_)))
   ·try
     refine zr H 0 ?_;refine zv ?_;obtain⟨ak,rfl,rfl⟩:=al Oo;have a6:(bitL (qe l k) (vNum l k)).length=vNum l k:=by simp[bitL]
     refine ElemV.sl am a6 (i-1) Oo Oo ?_;intro eb eo U;refine zu ?_;refine LoadV.cell0 U (zu ?_);obtain⟨b,Z⟩:∃b,b=(bitL (qe l k) (vNum l k))[i-1]:=⟨_,rfl⟩
     have a7:b=decide (bitN ((qe l k).drop 8) (i-1)=1):=by
      rw[Z];simp only[bitL,CA,DK];rw[vD,qdk];rw[ak.n];unfold upN;omega
     rw[<-Z];clear Z;cases b
     case true=>
      refine zu ?_;exact⟨i+1,fq,⟨by omega,H⟩,by omega⟩
     have bk:bitN ((qe l k).drop 8) (i-1)≠1:=of_decide_eq_false a7.symm;refine zu ?_
    refine ElemV.sl ad (qc0 ..) i Oo Oo ?_;intro eb eo U;rw[qrj]at U;refine zu ?_;refine LoadV.cell0 U (zu ?_);refine ElemV.sl ad (qc0 ..) (i-1) Oo Oo ?_;intro eb eo U;rw[qrj]at U;refine zu ?_;refine LoadV.cell0 U (zu ?_);exact⟨i+1,fq,⟨by omega,H⟩,by omega⟩
   ·exact⟨i+1,fq,⟨by omega,H⟩,by omega⟩
  ·refine zl H 0 ?_;refine zS H 2 λwa H=>zw ?_;refine zS H 1 λwb H=>zw ?_;refine qi (R:=λv w'=>LvR l k w v w') (zw ?_);refine zl H 2 ?_;refine zl H 1 ?_;exact⟨λh=>(al h).1,C,cc,B,nb,cb,_,bs,rfl,H,V.RowB.more (V.RowB.more (V.RowB.more (V.RowB.more ae))),V.RowB.more (V.RowB.more (V.RowB.more (V.RowB.more aa))),λh=>(al h).2⟩
theorem OpS.read{p:LB}{n:Nat}(h:OpS p n wd base (.slice A k c) w):∃xs:Ef,SlAt encU 1 w A xs/\xs.length=k/\∀j,j<n->xs.getD j 0=valB p (j*wd) wd:=by
 obtain⟨_,_,_,e,U,V,H⟩:=h;cases e;refine⟨(unpN p n wd).take k,qadg (f:=λx:Nat=>Value.int .u64 (x:Int)) (λ_=>rfl) (by rw[CI];exact H),by grind [qc0],λj W=>?_⟩
 rcases B9 wd with rfl|Z
 ·grind [unpN,valB]
 ·grind [unpN]
theorem qpr{m a:LB}(h:(entG m false a).2.2=0):(numL m).1<=a.length:=by
 unfold entG at h;simp only[Bool.false_eq_true,if_false]at h
 split at h
 ·rename_i g;exact absurd h g
 split at h
 ·rename_i g;exact absurd h g
 split at h
 ·cases h
 ·omega
def DvR(l:LB)(base:Nat)(v:DZ)(w:DU):Prop:=
 ∃H:List DV,(∀i t,H[i]?=some t->dGet l i=some t.data.toList)/\H.length=dN l/\∃B c,v=.tuple #[.slice B (dN l) c,fltV 0 0]/\w.ownsRow base 9 1 (.slice B (dN l) c) (dN l) (H.map Value.string)
structure OSt(l:LB)(i:Nat)(ts:List DV)(last:DV)(p:Nat):Prop where
 st:DSt l i last.data.toList p
 len:ts.length=i
 get:∀j t,ts[j]?=some t->dGet l j=some t.data.toList
 zero:i=0->last=⟨#[]⟩
 lst:∀j,i=j+1->ts[j]?=some last
 size:last.size<=262144
 dst:dSt l i=(last.data.toList,p)
theorem OSt.next{p:Nat}{ts:List DV}{H:DV}(h:OSt l i ts H p)(hE:(doE l).2=0)(hi:i<dN l):∃X:DV,∃y,entG (l.drop (ql l+p)) (decide (i%16=0)) H.data.toList=(X.data.toList,y,0)/\
  (i%16=0->q7 l (i/16)=p)/\(0<i->(slt X H||seq X H)=false)/\(i%16≠0->(numL (l.drop (ql l+p))).1=comL X.data.toList H.data.toList/\(numL (l.drop (ql l+p))).1<=4194304)/\OSt l (i+1) (ts++[X]) X (p+y):=by
 have hf:=(qbs hE).2.2.1 i hi;have e:l.drop (ql l+p)=(qd l).drop p:=by rw[qd,Ar]
 have hl:=h.len;have hd:=h.dst;have aa:=h.size;rw[e];obtain⟨G,V⟩:∃G,G=entG ((qd l).drop p) (decide (i%16=0)) H.data.toList:=⟨_,rfl⟩
 have hn:=qpk hd rfl;have Z:(i%16=0->q7 l (i/16)=p)/\G.2.2=0/\(0<i->leL G.1 H.data.toList=false)/\(i%16≠0->(numL ((qd l).drop p)).1=comL G.1 H.data.toList):=by grind [dnF]
 obtain⟨hp,he,h4,h5⟩:=Z;have hs:=h.st.step hp rfl (by rw[<-V];exact he);rw[<-V]at hs hn;have hb:=(qea (V ▸ he)).1;rw[<-V]at hb|-;refine⟨⟨G.1.toArray⟩,G.2.1,by rw[<-he],hp,h4,λW=>⟨h5 W,?_⟩,hs,by simp[hl],λj t U=>?_,λh=>by omega,λj U=>?_,?_,hn⟩
 ·rw[AM W]at V;have:=qpr (V ▸ he);have:H.data.toList.length=H.size:=rfl;omega
 ·rw[Cp]at U
  split at U
  ·exact h.get j t U
  ·rename_i ad
   obtain rfl:j=i:=by
    rcases Bj (j-ts.length) 1 with Z|Z
    ·omega
    ·rw[Bh (by simpa using Z)]at U;cases U
   rw[hl,BU]at U;cases U;exact hs.get hi
 ·obtain rfl:j=i:=by omega
  rw[Be Oo,hl,BU];rfl
 ·show(List.toArray _).size<=_;rw[Ct];exact hb
theorem q85(l:LB)(A:oA)(c:Nat)(w:DU)(hS:SlAt encB 1 w A l)(hc:l.length<=c)(hl:l.length<=140737488355328)(aq:(doE l).2=0):
  Gv Eg 172 [.slice A l.length c] w λv w'=>DvR l w.heap.size v w'/\Ext w w':=by
 obtain⟨hE,ar,ay,au⟩:=qbs aq;obtain⟨d1,d2,d3⟩:=q2u hE;refine ze Tryz.func172 Tryz.ntmps172 ?_;refine znm (Mem.nil w) λr3 w1 H=>zw ?_;refine zcv (q8z l A c w1 (hS.ext H.ext) hc hl hE) ?_;rintro r w2 ⟨rfl,az⟩;have H:=H.call az;have bf:qak l<=ql l:=by unfold ql;omega
 have bg:ql l<=l.length:=by rw[<-d3];unfold dEnd;omega
 have hW:qah (qez l)<=64:=qcq 64 _ (by show qez l<2 ^ 64;omega) Od;have hU:upN (dN l) 16<=262144:=by unfold upN;omega
 (conv=>whnf);refine znm H λhb w3 H=>zw ?_;refine znm H λfb w4 H=>zw ?_;refine zS H 1 λw5 H=>zw ?_;refine zS H 0 ?_;intro w6 H;have H:Mem w w6 [(fb,.cells #[ii 0,ii 0] 201),(hb,.cells #[ii (dN l:Nat),ii (qez l:Nat),ii (qak l:Nat),ii (ql l:Nat)] 200),(r3,.cells #[ii 0,ii 0] 201)]:=H;(conv=>whnf);refine LoadV.mem (i:=0) Oa rfl rfl (zw ?_);refine zt ?_;refine LoadV.mem (i:=1) Oa rfl rfl (zw ?_);refine zt ?_;obtain⟨U,eU⟩:∃U,U=upN (dN l) 16:=⟨_,rfl⟩
 have bh:U=(dN l+15)/16:=by rw[eU,upN];rfl
 have a0:((dN l:Nat)+16-1:Int)/16=(U:Int):=by omega
 rw[a0];obtain⟨P,eP⟩:∃P,P=(if c=qak l then A else A.map (·.add (qak l*1))):=⟨_,rfl⟩
 have hP:SlAt encB 1 w P (qx l):=by rw[eP];exact hS.cut (m:=c) Oo Oo Oo rfl
 rw[<-eU]at ar;have ai:(qx l).length=ql l-qak l:=by rw[qx,Az,zld];omega
 have aj:(qx l).length=(U*dW l+7)/8:=by rw[ai,eU];show qak l+(upN (dN l) 16*dW l+7)/8-_=_;omega
 refine DrawV.free Jk Jk (zw ?_);refine zd ?_;refine zd ?_;refine zLd ?_;refine zd ?_;refine zLd ?_;refine zsd (.slice P (ql l-qak l) (c-qak l)) (λwd hd=>zw ?_) (zw ?_)
 ·refine SliceV.to (qak l) (ql l) c rfl rfl rfl Oo Oo znr (λh=>by cases h) ?_;rw[show tsz Eg 5=1 from by kernel_rfl,<-eP];(conv=>whnf);exact xq
 refine zd ?_;refine zd ?_;refine zLd ?_;refine zd ?_;refine zsd (ii (dW l:Nat)) (λwd hd=>zw ?_) (zw ?_)
 ·refine zcv (qel (qez l) wd Oo) ?_;rintro v w9 ⟨rfl,rfl⟩;exact xq
 apply StepD.of (λv wx=>OpR (qx l) U (dW l) w6.heap.size v wx) (λ_ _ _ h he=>h.ext he znr)
 ·intro wd hd;(conv=>whnf);have:=qy2 (qx l) P (c-qak l) U (dW l) wd (hP.ext (H.drew.ext.trans hd)) aj Oo hW ar;rw[ai]at this;refine zcv (this) ?_;rintro v w9 ⟨h1,h2⟩;exact⟨h2,h1.ext xr hd.size⟩
 (conv=>whnf);apply StepD.of (λv wx=>OpR (qx l) U (dW l) w6.heap.size v wx) (λ_ _ _ h he=>h.ext he znr)
 ·intro wd hd;(conv=>whnf);rintro v W;obtain⟨A1,k1,c1,rfl,hs⟩:=id W;(conv=>whnf);exact⟨xr,W⟩
 (conv=>whnf);apply StepD.of (λv wx=>OpS (qx l) U (dW l) w6.heap.size v wx) (λ_ _ _ h he=>h.ext he znr)
 ·intro wd hd;(conv=>whnf);rintro v W;obtain⟨A1,k1,c1,rfl,hs⟩:=id W;conv=>whnf
  (try (rintro v2 ak;(conv=>whnf)))
  exact⟨xr,hs⟩
 (conv=>whnf);apply zsd (ii 0)
 ·intro wd hd;conv=>whnf
  (repeat(rintro v W;(try obtain⟨A1,k1,c1,rfl,hs⟩:=id W);(conv=>whnf)))
  exact xq
 (conv=>whnf);apply StepD.of (λv wx=>OpS (qx l) U (dW l) w6.heap.size v wx) (λ_ _ _ h he=>h.ext he znr)
 ·intro wd hd;(conv=>whnf);rintro v W;obtain⟨A1,k1,c1,rfl,_⟩:=id W;conv=>whnf
  (repeat(rintro v2 ak;(first|obtain⟨A2,k2,c2,rfl,hs⟩:=id ak|obtain⟨A2,k2,c2,rfl,_⟩:=id ak);(conv=>whnf)))
  exact⟨xr,by assumption⟩
 (conv=>whnf);apply zsd (ii 0)
 ·intro wd hd;conv=>whnf
  (repeat(rintro v W;(try obtain⟨A1,k1,c1,rfl,_⟩:=id W);(conv=>whnf)))
  exact xq
 (conv=>whnf);intro w7 a1;(conv=>whnf);rintro v W;conv=>whnf
 (repeat(rintro _ _;(conv=>whnf)))
 obtain⟨Q,k1,c1,rfl,_⟩:=id W;have H:=H.drew.call a1;obtain⟨xs,hX,a2,a3⟩:=OpS.read W;clear W;refine zt ?_;refine LoadV.mem (i:=1) Oa rfl rfl (zw ?_);refine qk (λx:Nat×List DV×DV×Nat×oA×Nat=>[(0,.slice A l.length c),(3,pp r3),(4,pp hb),(7,.slice Q k1 c1),(9,.slice x.2.2.2.2.1 x.1 x.2.2.2.2.2),(10,ii (ql l+x.2.2.2.1:Nat)),(11,ii x.1)])
  (λx w'=>x.1<=dN l/\OSt l x.1 x.2.1 x.2.2.1 x.2.2.2.1/\Rw w7 w' (.slice x.2.2.2.2.1 x.1 x.2.2.2.2.2) 9 1 x.1 (x.2.1.map Value.string) []) (λx=>dN l-x.1) (0,[],⟨#[]⟩,0,none,0)
  fq ⟨Ag _,⟨⟨Ag _,λj h=>(by cases h)⟩,rfl,λj t h=>(by cases h),λ_=>rfl,λj h=>(by cases h),by decide,rfl⟩,Rw.nil (Mem.nil w7)⟩ ?_
 have a4:=H.ext.size;rintro⟨i,ts,ad,p,B,cc⟩ w8 bi ⟨i1,Z,hR⟩;dsimp only at i1 Z hR|-;have H:=H.call hR.mem.ext;have ba:=Z.st.le;have bj:(qd l).drop p=l.drop (ql l+p):=by rw[qd,Ar]
 have bb:(qd l).length=l.length-ql l:=by rw[qd,zld]
 have al:=Z.size;have aa:=hS.ext H.ext;have am:=hX.ext hR.mem.ext;have a5:i=dN l->l.length<=ql l+p:=by rintro rfl;rw[Z.dst]at au;omega
 (conv=>whnf);refine LoadV.mem (i:=1) Oa rfl rfl (zw ?_);refine zC (λ_=>zu ?_) (λ_=>zu ?_)
 ·obtain⟨X,y,eG,a6,a7,av,an⟩:=Z.next aq Oo;have be:=an.st.le;have ae:=λw' (hx:SlAt encB 1 w' A l)=>qz1 l A c (ql l+p) (decide (i%16=0)) ad w' hx hc hl Oo al X y eG
  have H:=H.drew;have hR:=V.Rw.drew hR;have aa:=aa.ext (Ext.refl w8).drew;have am:=am.ext (Ext.refl w8).drew;refine if af:i%16=0 then ?cA else ?cB
  case' cA=>
   rw[AE af]at ae;rw[show decide (((i:Nat):Int)%16=0)=true from AE Oo];refine zy ?_;refine zv ?_;rw[show((i:Nat):Int)/16=((i/16:Nat):Int)by omega];refine⟨.int .u64 (p:Nat),by rw[<-a6 af,show q7 l (i/16)=xs.getD (i/16) 0 from(a3 _ Oo).symm];exact qsu xs Q k1 c1 (i/16) _ am a2,?_⟩;(conv=>whnf);refine zt ?_;refine LoadV.mem (i:=1) Oa rfl rfl (zw ?_);refine zt ?_;refine zC (λ_=>zu ?_) (λ_=>zu ?_)
  case' cB=>
   rw[AM af]at ae;rw[show decide (((i:Nat):Int)%16=0)=false from AM Oo];refine zy ?_;refine zv ?_
  all_goals
   try
    have hT:SlAt V.zeS 1 w8.drew B ts:=V.Rw.slAt (f:=Value.string) (λ_=>rfl) hR Z.len;have aw:ts[i-1]'(by have:=Z.len;omega)=ad:=by
     have h1:=Z.lst (i-1) Oo;rw[zge (by have:=Z.len;omega)]at h1;exact Bb h1
    refine ElemV.sl hT Z.len (i-1) Oo Oo ?_;intro eb eo ag;rw[aw]at ag;(conv=>whnf);refine LoadV.cell0 ag (zw ?_)
   try
    have h0:i=0:=by omega
    obtain rfl:=Z.zero h0
   refine zcv (ae _ aa) ?_;rintro r w9 ⟨rfl,ao⟩;have H:=H.call ao;have hR:=hR.call ao;have aa:=aa.ext ao;refine zu ?_
   try
    rw[a7 Oo];refine zv ?_
   try
    refine zcv (q3a l A c (ql l+p) X ad w9 aa hc hl Oo (av af).2 (by have:=an.size;omega)) ?_;rintro r wq ⟨rfl,ax⟩;have H:=H.call ax;have hR:=hR.call ax;rw[AE (av af).1];refine zu ?_
  all_goals
   refine NewV.rw hR λnb wn a8=>zw ?_;refine AppV.one qv9 strI strZ Jk rfl (by decide +kernel) a8 rfl Oo ?_;intro B' d' wo a9;refine zu ?_;refine⟨(i+1,ts++[X],X,p+y,B',d'),⟨rfl,rfl,rfl,rfl,rfl,(by show ii ((ql l+p+y:Nat):Int)=ii ((ql l+(p+y):Nat):Int);rw[C7]),rfl,trivial⟩,⟨by simp only;omega,an,by simp only[AJ,AK,BN];exact a9⟩,by simp only;omega⟩
 obtain rfl:i=dN l:=by omega
 refine StoreA.same (H.get (L:=_) Js:w8.heap[r3]?=some (.cells #[ii 0,ii 0] 201)) rfl Od λbk ah=>zw ?_;refine qi (R:=λv w'=>DvR l w.heap.size v w'/\Ext w w') (zw ?_);refine LoadA.mem (H.call ah) (i:=2) rfl rfl (zw ?_);exact⟨⟨ts,Z.get,Z.len,B,cc,rfl,qcf (qif hR.own a4) ah⟩,H.ext.trans ah⟩
end Go.Proofs.YtccmcfpmknpccaaGreatDoor
