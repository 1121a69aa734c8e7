/- Lemmas and contracts of functions on the way to the law's card (part 2 of 20). -/
import Derived.Test.YtccmcfpmknpccaaGreatDoorSA1
import Derived.Orders
import Derived.Shelf.Strings.Builder1
import Derived.Shelf.Strings.Builder2
import Derived.Shelf.Small.Utf8
import Derived.Shelf.Small.Bits
import Derived.Shelf.Small.Strs
import Derived.Shelf.Strings.BuilderF
import Derived.Shelf.Strings.BuilderK
import Derived.Shelf.Strconv.Itoa0
import Derived.Shelf.Strings.Search1
import Derived.Shelf.Strings.Search2
import Derived.Shelf.Strings.Search3
import Derived.Shelf.Strings.Cut
import Derived.Shelf.Strings.Count
import Derived.Shelf.LaysM
import Derived.Shelf.Strings.Shaped
import Derived.Shelf.Strings.Split
import Derived.Shelf.Strings.Runes
import Derived.Shelf.Unicode.DecodeSlow
import Derived.Shelf.Unicode.DecodeAny
import Derived.Shelf.Slices.Turned
import Derived.Ground.Names2Prog
import Derived.Shelf.Slices.SearchI
import Derived.Test.YtccmcfpmknpccaaGreatDoorProg
namespace Go.Proofs.YtccmcfpmknpccaaGreatDoor
open Go.RowKit
variable {b base d i id j k m off:Nat} {ops:Array Oper} {o oj:Oper} {w w' w0:DU} {K R:Ea} {Q':Exit->Act->Ec} {listed:Array Bool} {E:Nat->Option DZ} {pr:Nat->Prop} {vals ρ:Eb} {I:(Nat->Bool)->Eb->Ec} {P:DW} {x:DZ} {p q:Prop} {L:Ed} {cs cur:Eh} {fr:Nat×Nat} {f:FuncId} {vs:Ee} {l:LB}
namespace V
def qaeb(e:Edge):Bool:=
 match e.ground with
 | .textOnly _ | .gcOnly _=>false
 | _=>true
theorem qev(e:Edge):Region.binds .any e=qaeb e:=by
 rfl
def qs8:List Edge->Ef
 | []=>[]
 | e::l=>bif qaeb e then e.on::qs8 l else qs8 l
def qa3(o:Oper):Ef:=qs8 o.after.toList
theorem qcu{l:List Edge}:k∈qs8 l↔∃e∈l,qaeb e=true/\e.on=k:=by
 induction l<;>grind [qs8]
theorem qc1(ρ:Eb)(d:Nat)(v:DZ):upd ρ d v d=v:=by simp[upd]
theorem qa1(ρ:Eb)(d t:Nat)(v:DZ)(h:t≠d):upd ρ d v t=ρ t:=by
 grind [Nat.eq_of_beq_eq_true,upd]
def qds(P:DW)(ops:List Oper)(o:Oper)(ρ:Eb)(w:DU)(K:Ea):Prop:=
 match o.guard with
 | none=>opV P o ρ w K
 | some (j,H)=>
  match getL ops j with
  | none=>K undef w
  | some oj=>match oj.dst with
   | none=>K undef w
   | some d=>
    match ρ d with
    | .bool b=>Tst b
      (match H with
       | true=>opV P o ρ w K
       | false=>K undef w)
      (match H with
       | true=>K undef w
       | false=>opV P o ρ w K)
    | _=>K undef w
structure StepD(A:Ea->Prop)(K:Option DZ->Ea->Prop):Prop where
 h:(∃v,A (λu _=>u=v)/\K (some v) (λu _=>u=v))\/(∃φ:DZ->DU->Prop,(∀v w w',φ v w->Ext w w'->φ v w')/\A φ/\K none φ)
theorem StepD.still{A:Ea->Prop}{K:Option DZ->Ea->Prop}(v:DZ)(h:A (λu _=>u=v))(H:K (some v) (λu _=>u=v)):StepD A K:=⟨(by grind)⟩
theorem StepD.of{A:Ea->Prop}{K:Option DZ->Ea->Prop}(H:Ea)(U:∀v w w',H v w->Ext w w'->H v w')(h:A H)(V:K none H):StepD A K:=⟨(by grind)⟩
structure StepG(A:Option DZ->Prop)(K:Option DZ->Prop):Prop where
 h:∃v,A v/\K v
theorem StepG.of{A K:Option DZ->Prop}(v:DZ)(h:A (some v))(H:K (some v)):StepG A K:=⟨some v,h,H⟩
theorem StepG.any{A K:Option DZ->Prop}(h:A none)(H:K none):StepG A K:=⟨none,h,H⟩
structure StepI(A:DZ->Prop)(K:DZ->Prop):Prop where
 h:∃v,A v/\K v
theorem StepI.of{A K:DZ->Prop}(v:DZ)(h:A v)(H:K v):StepI A K:=⟨v,h,H⟩
def updO(ρ:Eb):Option Tmp->Option DZ->Nat->DZ
 | some d,some v=>upd ρ d v
 | _,_=>ρ
abbrev EL(α:Type):=List (Nat×Nat×α)
def qhh{α:Type}:EL α->Nat->Option (Nat×α)
 | [],_=>none
 | (i,x)::es,k=>bif Nat.beq i k then some x else qhh es k
def allA(es:EL Ea):Ef->Eb->DU->(Eb->Prop)->Prop
 | [],ρ,_,K=>K ρ
 | k::H,ρ,w,K=>
  match qhh es k with
  | some (d,U)=>∀v,U v w->allA es H (upd ρ d v) w K
  | none=>allA es H ρ w K
def idxs{α:Type}:EL α->Ef
 | []=>[]
 | (i,_)::es=>i::idxs es
def qns{α:Type}(k:Nat)(x:α)(es:EL α):Option Tmp->Option DZ->EL α
 | some d,none=>(k,d,x)::es
 | _,_=>es
def regD(P:DW)(ops:List Oper)(w0:DU)(Q:Eb->Ec):List Oper->Nat->EL Ea->Eb->Prop
 | [],_,es,ρ=>∀w,Ext w0 w->allA es (idxs es) ρ w λH=>Q H w
 | o::l,k,es,ρ=>StepD
   (λU=>∀w,Ext w0 w->allA es (qa3 o) ρ w λH=>qds P ops o H w λv w'=>Ext w w'/\U v w')
   (λv U=>regD P ops w0 Q l (k+1) (qns k U es o.dst v) (updO ρ o.dst v))
def setS(S:Nat->Bool)(k:Nat):Nat->Bool:=λj=>bif Nat.beq j k then true else S j
def isG:Option DZ->DZ->Prop
 | some c,x=>x=c
 | none,_=>True
def frG:EL Unit->Eb->Eb->Eb
 | [],_,ρ=>ρ
 | (k,d,_)::es,vals,ρ=>frG es vals (upd ρ d (vals k))
def regG(P:DW)(ops:List Oper)(I:(Nat->Bool)->Eb->Ec)(Q:Eb->Ec):List Oper->Nat->EL Unit->Eb->Prop
 | [],_,es,ρ=>∀vals w,I (λ_=>true) vals w->Q (frG es vals ρ) w
 | o::l,k,es,ρ=>StepG (λv=>∀S vals w,S k=false->(∀j∈qa3 o,S j=true)->I S vals w->qds P ops o (frG es vals ρ) w λH w'=>isG v H/\I (setS S k) (upd vals k H) w')
   (λv=>regG P ops I Q l (k+1) (qns k () es o.dst v) (updO ρ o.dst v))
def regI(P:DW)(ops:List Oper)(I:(Nat->Bool)->Ec)(Q:Eb->Ec):List Oper->Nat->Eb->Prop
 | [],_,ρ=>∀w,I (λ_=>true) w->Q ρ w
 | o::l,k,ρ=>StepI (λv=>∀S w,S k=false->(∀j∈qa3 o,S j=true)->I S w->qds P ops o ρ w λH w'=>H=v/\I (setS S k) w')
   (λv=>regI P ops I Q l (k+1) (updO ρ o.dst (some v)))
def shB(n:Nat)(ops:Array Oper)(j k:Nat)(o ok:Oper):Bool:=
 (qa3 o).all (λi=>decide (i<j))&&(match o.dst with|some d=>decide (d<n)|none=>true)&&match ok.dst with
  | some t=>(!(o.looksAt ops).contains t||((qa3 o).contains k||(qa3 ok).contains j))&&(k==j||o.dst != some t)
  | none=>true
def qke(n:Nat)(ops:Array Oper):Bool:=
 Region.noSelect ops&&(List.range ops.size).all λj=>(List.range ops.size).all λk=>match ops[j]?,ops[k]? with
  | some o,some ok=>shB n ops j k o ok
  | _,_=>true
structure ShapeW(n:Nat)(ops:Array Oper):Prop where
 sel:Region.noSelect ops=true
 lt:∀(j:Nat) (o:Oper),ops[j]?=some o->∀k∈qa3 o,k<j
 dn:∀(j:Nat) (o:Oper),ops[j]?=some o->∀d,o.dst=some d->d<n
 look:∀(j:Nat) (o:Oper) (k:Nat) (ok:Oper) (t:Nat),ops[j]?=some o->ops[k]?=some ok->ok.dst=some t->t∈o.looksAt ops->k∈qa3 o\/j∈qa3 ok
 uniq:∀(j:Nat) (o:Oper) (k:Nat) (ok:Oper) (t:Nat),ops[j]?=some o->ops[k]?=some ok->ok.dst=some t->o.dst=some t->k=j
theorem qtv{n:Nat}(h:qke n ops=true):ShapeW n ops:=by
 obtain⟨V,W⟩:=Bool.and_eq_true_iff.1 h;have Z:∀{j k:Nat} {o ok:Oper},ops[j]?=some o->ops[k]?=some ok->shB n ops j k o ok=true:=λ{j k o ok} H U=>by
  have:=CJ.1 (CJ.1 W j (BP.2 (Cg.1 H).1)) k (by grind)
  simp_all
 refine⟨V,λj o H k U=>?_,λj o H d hd=>?_,λj o k ok t H U ht hl=>?_,λj o k ok t H U ht ho=>?_⟩
 all_goals grind [shB]
section
variable {P:DW} {n:Nat} {ops:Array Oper} {ρ:Eb}
theorem qagi{H U:Eb}(V:∀cs b,o.op≠.select cs b)(h:∀t∈o.looksAt ops,H t=U t):execOp (ev H) o=execOp (ev U) o:=by
 refine execOp_congr o V λx W=>?_;cases x with
 | tmp t=>exact h t (Aj _ (DI.2 ⟨.tmp t,by simpa using W,rfl⟩))
 | const v=>rfl
 | global g=>rfl
 | func f=>rfl
theorem qqc{H:Bool}(U:o.guard=some (j,H))(V:ops[j]?=some oj)(W:oj.dst=some d):d∈o.looksAt ops:=by
 refine Ac _ ?_
 simp_all
theorem q3r{H U:Eb}{a:Act}{K2:Act->Ec}(hi:ops[i]?=some o)(hS:ShapeW n ops)(ha:St n U a)(V:∀t∈o.looksAt ops,H t=U t)(h:qds P ops.toList o H w K)(hk:∀v w',K v w'->K2 (a.put o.dst v) w'):wpOp P ops Q' i K2 a w:=by
 have aa:=Region.noSelect_spec hS.sel i o;have ae:opV P o H w K->Region.wanted o (yielded ops a.tmps)=true->wpOp P ops Q' i K2 a w:=λh hw=>by
  unfold wpOp;rw[hi];simp only[hw,if_true];have W:=q5i h;rw[qagi (ops:=ops) (by grind) V]at W;exact .inl (OpOk.wp ha.eval W hk)
 have skip:K undef w->Region.wanted o (yielded ops a.tmps)=false->wpOp P ops Q' i K2 a w:=(by grind [wpOp])
 unfold qds at h
 split at h
 ·grind [Region.wanted]
 ·rename_i j ad hg
  split at h
  ·grind [qa2,Region.wanted,yielded]
  ·rename_i oj hj
   rw[qa2]at hj;have Z:ops[j]?=some oj:=by simpa using hj
   split at h
   ·grind [Region.wanted,yielded]
   ·rename_i d hd
    have hy:=ha.yield (by rw[qa2];exact hj) hd (hS.dn j oj Z d hd);rw[Array.toArray_toList]at hy;rw[V d (qqc hg Z hd)]at h
    split at h
    ·rename_i b hb
     rw[hb]at hy;cases b
     ·have h:=h.f rfl
      grind [Region.wanted]
     ·have h:=h.t rfl
      grind [Region.wanted]
    grind [Region.wanted]
theorem qfo(m j:Nat):(Array.replicate m false).getD j false=false:=by
 rcases Bj j m with h|h<;>simp[h]
theorem countP_set(listed:Array Bool)(i:Nat)(hi:listed.getD i true=false):(listed.setIfInBounds i true).toList.count false+1=listed.toList.count false:=by
 have H:i<listed.toList.length:=by
  grind
 have U:listed.toList[i]=false:=by
  have V:i<listed.size:=by omega
  simp_all
 grind
theorem qtc{H:Region.Mode}(h:∀k,k<ops.size->listed.getD k true=true):Region.ready H ops listed=[]:=by
 rw[Dz]
 grind [mem_ready]
theorem q00(V:ShapeW n ops)(W:listed.size=ops.size)(hr:Region.ready .any ops listed=[])(k:Nat)(Z:k<ops.size):listed.getD k true=true:=by
 induction k using Nat.strongRecOn with
 | _ k ih=>
  cases hv:listed.getD k true with
  | true=>rfl
  | false=>
   have H:k∈Region.ready .any ops listed:=mem_ready.2 ⟨hv,ops[k],Js,λe he U=>by
    rw[qev]at U;have h1:=V.lt k _ (Cl Z) _ (qcu.2 ⟨e,by simpa using he,U,rfl⟩)
    grind⟩
   simp_all
theorem qq3:(λj=>(listed.setIfInBounds i true).getD j true)=setS (λj=>listed.getD j true) i:=by
 funext j
 unfold setS
 by_cases H:j=i
 ·simp_all
 ·have:Nat.beq j i=false:=(by grind [Nat.eq_of_beq_eq_true])
  rw[this,getD_set_ne true Oo];rfl
theorem qem{S:Nat->Bool}(h:setS S i k=true):k=i\/(k≠i/\S k=true):=by
 grind [Nat.eq_of_beq_eq_true,setS]
def frE:List (Nat×Nat×Option DZ)->Eb->Eb->Eb
 | [],_,ρ=>ρ
 | (k,d,v)::es,vals,ρ=>frE es vals (upd ρ d (v.getD (vals k)))
theorem qx1{vals:Eb}{t:Nat}{x:DZ}:∀(es:List (Nat×Nat×Option DZ)) (ρ:Eb),(∀k v,(k,t,v)∈es->v.getD (vals k)=x)->(ρ t=x\/∃k v,(k,t,v)∈es)->frE es vals ρ t=x
 | [],ρ,_,h=>h.elim id Js
 | (k,d,v)::es,ρ,H,h=>by
  refine qx1 es _ (by grind) ?_
  grind [qc1,qa1]
theorem qb5{vals:Eb}:∀(a b:List (Nat×Nat×Option DZ)) (ρ:Eb),frE (a++b) vals ρ=frE b vals (frE a vals ρ)
 | [],_,_=>rfl
 | _::a,b,_=>qb5 a b _
structure FrI(ops:Array Oper)(ρ:Eb)(E:Nat->Option DZ)(S:Nat->Bool)(vals ρa:Eb):Prop where
 at_:∀k o d,ops[k]?=some o->o.dst=some d->S k=true->ρa d=vals k
 miss:∀t,(∀k o,ops[k]?=some o->S k=true->o.dst≠some t)->ρa t=ρ t
 still:∀k o c,ops[k]?=some o->E k=some c->S k=true->vals k=c
structure Kn(ops:Array Oper)(E:Nat->Option DZ)(i:Nat)(pr:Nat->Prop)(es:List (Nat×Nat×Option DZ)):Prop where
 in_:∀k d v,(k,d,v)∈es->k<i/\E k=v/\∃o,ops[k]?=some o/\o.dst=some d
 all:∀k o d,k<i->pr k->ops[k]?=some o->o.dst=some d->(k,d,E k)∈es
theorem Kn.frame{es:List (Nat×Nat×Option DZ)}{S:Nat->Bool}{U:Eb}(h:Kn ops E i pr es)(hS:ShapeW n ops)(F:FrI ops ρ E S vals U){t:Nat}(h1:∀k o,ops[k]?=some o->o.dst=some t->(k<i->S k=true/\pr k)/\(S k=true->k<i)):frE es vals ρ t=U t:=by
 by_cases hx:∃k o,ops[k]?=some o/\o.dst=some t/\S k=true
 ·obtain⟨k,o,H,V,W⟩:=hx;have hi:=(h1 k o H V).2 W;rw[F.at_ k o t H V W];refine qx1 _ _ (λk' v Z=>?_) (.inr ⟨k,_,h.all k o t hi (by grind) H V⟩);obtain⟨_,he,o',aa,ad⟩:=h.in_ _ _ _ Z;obtain rfl:=hS.uniq k o k' o' t H aa ad V;cases v with
  | none=>rfl
  | some c=>exact(F.still k' o c H he W).symm
 ·rw[F.miss t (by grind)];refine qx1 _ _ (λk v Z=>?_) (.inl rfl);obtain⟨hi,_,o,H,V⟩:=h.in_ _ _ _ Z
  grind
def qaij(P:DW)(ops:Array Oper)(E:Nat->Option DZ)(I:(Nat->Bool)->Eb->Ec)(ρ:Eb)(i:Nat)(o:Oper):Prop:=
 ∃es,Kn ops E i (·∈qa3 o) es/\∀S vals w,S i=false->(∀j∈qa3 o,S j=true)->I S vals w->∃R:DZ->DU->Prop,qds P ops.toList o (frE es vals ρ) w R/\∀H w',R H w'->isG (E i) H/\I (setS S i) (upd vals i H) w'
theorem q74{Q:Eb->Ec}(hS:ShapeW n ops)(hE:∀i o,ops[i]?=some o->qaij P ops E I ρ i o)(hF:∃es,Kn ops E ops.size (λ_=>True) es/\∀vals w,I (λ_=>true) vals w->Q (frE es vals ρ) w):
  ∀(fuel:Nat) (L:Array Bool) (vals H:Eb) (a:Act) (w:DU),L.toList.count false<=fuel->L.size=ops.size->(∀k o,ops[k]?=some o->L.getD k true=true->∀j∈qa3 o,L.getD j true=true)->
  FrI ops ρ E (λj=>L.getD j true) vals H->St n H a->I (λj=>L.getD j true) vals w->wpAny P .any ops (λe a' w'=>e=.normal/\∃W,St n W a'/\Q W w') fuel L a w:=by
 obtain⟨ef,hA,hF⟩:=hF;have ad:∀(L:Array Bool) (vals H:Eb) (a:Act) (w:DU),(∀k,k<ops.size->L.getD k true=true)->L.size=ops.size->FrI ops ρ E (λj=>L.getD j true) vals H->St n H a->I (λj=>L.getD j true) vals w->
   (Exit.normal=.normal/\∃W,St n W a/\Q W w):=λL vals H a w U Z F ha hI=>by
  have hT:(λj=>L.getD j true)=λ_=>true:=by
   grind
  have he:frE ef vals ρ=H:=funext λt=>hA.frame hS F (by grind)
  grind
 intro fuel
 induction fuel with
 | zero=>
  intro L vals H a w hc Z _ F ha hI;have U:∀k,k<ops.size->L.getD k true=true:=λk V=>by
   have h1:=List.count_eq_zero.1 (show L.toList.count false=0 by omega);have ag:k<L.size:=by omega
   cases hv:L[k]with
   | true=>simp[ag,hv]
   | false=>grind
  exact⟨qtc U,ad L vals H a w U Z F ha hI⟩
 | succ fuel ih=>
  intro L vals H a w hc Z al F ha hI;refine⟨(by grind [q00]),λi hi=>?_⟩;obtain⟨ah,o,ho,U⟩:=mem_ready.1 hi;have ai:∀k∈qa3 o,L.getD k true=true:=λk V=>by
   obtain⟨e,he,hb,am⟩:=qcu.1 V
   grind [qev]
  obtain⟨es,hK,aj⟩:=hE i o ho;obtain⟨R,h,hR⟩:=aj _ vals w ah ai hI;refine q3r ho hS ha (λt ht=>hK.frame hS F λk ok V hd=>?_) h λv' w' hr=>?_
  ·rcases hS.look i o k ok t ho V hd ht with h|h
   ·exact⟨(by grind),λ_=>hS.lt i o ho k h⟩
   ·have:=hS.lt k ok V i h
    grind
  ·obtain⟨hv,af⟩:=hR v' w' hr;rw[<-qq3]at af;refine ih _ (upd vals i v') (match o.dst with|some d=>upd H d v' | none=>H) _ _ (by grind [countP_set]) (by simp[Z]) ?_ ?_ ?_ af
   ·have an:∀j,L.getD j true=true->(L.setIfInBounds i true).getD j true=true:=λj hj=>by
     rw[congrFun qq3 j,setS,hj];simp
    intro k ok V hl j hj;rw[congrFun qq3 k]at hl
    grind [qem]
   ·rw[qq3];refine⟨λk ok d V hd hs=>?_,λt ht=>?_,λk ok c V he hs=>?_⟩
    ·rcases qem hs with rfl|⟨aa,hs⟩
     ·obtain rfl:=Bb (ho.symm.trans V)
      simp_all[qc1]
     ·rw[qa1 _ _ _ _ aa,<-F.at_ k ok d V hd hs];cases ae:o.dst with
      | none=>rfl
      | some d'=>exact qa1 _ _ _ _ λe=>aa (hS.uniq i o k ok d ho V hd (e ▸ ae))
    ·rw[<-F.miss t (by grind [setS])];cases ae:o.dst with
     | none=>rfl
     | some d'=>exact qa1 _ _ _ _ λe=>ht i o ho (by simp[setS]) (e ▸ ae)
    ·rcases qem hs with rfl|⟨aa,hs⟩
     ·rw[he]at hv;rw[qc1];exact hv
     ·rw[qa1 _ _ _ _ aa];exact F.still k ok c V he hs
   ·cases ak:o.dst with
    | none=>exact ha
    | some d=>exact ha.put (hS.dn i o ho d ak) v'
end
structure AnyV(P:DW)(n:Nat)(ops:Array Oper)(R:Eb->Ec)(ρ:Eb)(w:DU):Prop where
 h:∀a,St n ρ a->wpAny P .any ops (λe a' w'=>e=.normal/\∃ρ',St n ρ' a'/\R ρ' w') ops.size (Array.replicate ops.size false) a w.drew
theorem AnyV.draw{n:Nat}{Q:Exit->Eb->Ec}(U:P.follows .mixedOrders=true)(h:AnyV P n ops (λH w'=>Q .normal H w') ρ w):DrawV P n id ops Q ρ w:=
 ⟨λa V=>Code.wp_mono (by grind) (wp_region_any U (h.h a V))⟩
section
variable {P:DW} {n:Nat} {ops:Array Oper} {R:Eb->Ec} {ρ:Eb} {w:DU}
theorem AnyV.core(U:qke n ops=true)(h0:∀vals,I (λj=>Nat.ble ops.size j) vals w.drew)(V:∀i o,ops[i]?=some o->qaij P ops E I ρ i o)(W:∃es,Kn ops E ops.size (λ_=>True) es/\∀vals w,I (λ_=>true) vals w->R (frE es vals ρ) w):AnyV P n ops R ρ w:=by
 have e:(λj=>(Array.replicate ops.size false).getD j true)=λj=>Nat.ble ops.size j:=by
  funext j
  rcases Bj j ops.size with H|H
  ·have Z:Nat.ble ops.size j=false:=CW.2 λe=>by have:=CB e;omega
   simp[H,Z]
  simp_all
 have no:∀{k o},ops[k]?=some o->Nat.ble ops.size k=true->False:=(by grind [Nat.le_of_ble_eq_true])
 refine⟨λa ha=>q74 (qtv U) V W _ _ (λ_=>undef) ρ a _ Js Js (λk o ho hk=>?_) ?_ ha ?_⟩
 ·simp_all
 ·rw[e];exact⟨(by grind),λ_ _=>rfl,(by grind)⟩
 simp_all
def regX{α:Type}(A:Nat->Oper->EL α->Eb->Option DZ->α->Prop)(B:EL α->Eb->Prop):List Oper->Nat->EL α->Eb->Prop
 | [],_,es,ρ=>B es ρ
 | o::l,k,es,ρ=>∃v x,A k o es ρ v x/\regX A B l (k+1) (qns k x es o.dst v) (updO ρ o.dst v)
structure Sofar{α:Type}(ops:Array Oper)(E:Nat->Option DZ)(X:Nat->α)(k:Nat)(es:EL α)(st:List (Nat×Nat×Option DZ)):Prop where
 st:∀j d v,(j,d,v)∈st↔j<k/\E j=v/\v≠none/\∃o,ops[j]?=some o/\o.dst=some d
 es:∀j d x,(j,d,x)∈es↔j<k/\E j=none/\X j=x/\∃o,ops[j]?=some o/\o.dst=some d
section
variable {α:Type}
theorem qq1{A:Nat->Oper->EL α->Eb->Option DZ->α->Prop}{B:EL α->Eb->Prop}:∀(l:List Oper) (k:Nat) (es:EL α) (U:Eb) (E:Nat->Option DZ) (X:Nat->α) (H:List (Nat×Nat×Option DZ)),
  (∀(j:Nat) (o:Oper),l[j]?=some o->ops[k+j]?=some o)->(∀vals,U=frE H vals ρ)->Sofar ops E X k es H->regX A B l k es U->∃E' X',(∀j,j<k\/k+l.length<=j->E' j=E j/\X' j=X j)/\
   (∀i o,k<=i->i<k+l.length->ops[i]?=some o->∃es H Z,(∀vals,Z=frE H vals ρ)/\Sofar ops E' X' i es H/\A i o es Z (E' i) (X' i))/\
   ∃es H Z,(∀vals,Z=frE H vals ρ)/\Sofar ops E' X' (k+l.length) es H/\B es Z
 | [],k,es,U,E,X,H,_,V,hs,h=>⟨E,X,Js,(by grind),es,H,U,V,hs,h⟩
 | o::l,k,es,U,E,X,H,hl,V,hs,⟨v,x,hA,h⟩=>by
  have ho:ops[k]?=some o:=hl 0 o rfl;have ad:∀(j:Nat) (o:Oper),l[j]?=some o->ops[k+1+j]?=some o:=λj o h=>by rw[show k+1+j=k+(j+1)by omega];simp_all
  obtain⟨E1,hE,ah⟩:∃E1:Nat->Option DZ,(∀j,j≠k->E1 j=E j)/\E1 k=v:=⟨λj=>if j=k then v else E j,(by grind),Ad rfl⟩
  obtain⟨X1,hX,ai⟩:∃X1:Nat->α,(∀j,j≠k->X1 j=X j)/\X1 k=x:=⟨λj=>if j=k then x else X j,(by grind),Ad rfl⟩
  have ae:∀{E':Nat->Option DZ} {X':Nat->α},(∀j,j<k->E' j=E j/\X' j=X j)->Sofar ops E' X' k es H:=λh=>⟨λj d v=>(hs.st j d v).trans (by grind),λj d x=>(hs.es j d x).trans (by grind)⟩
  have W:=ae λj hj=>⟨hE j (Nat.ne_of_lt hj),hX j (Nat.ne_of_lt hj)⟩
  obtain⟨aa,h1,h2⟩:∃aa,(∀vals,updO U o.dst v=frE aa vals ρ)/\Sofar ops E1 X1 (k+1) (qns k x es o.dst v) aa:=by
   cases hd:o.dst with
   | none=>exact⟨H,V,⟨by grind [W.st],by grind [W.es,qns]⟩⟩
   | some d=>
    cases v with
    | none=>exact⟨H,V,⟨by grind [W.st],by grind [W.es,qns]⟩⟩
    | some c=>exact⟨H++[(k,d,some c)],λvals=>by rw[qb5,<-V];rfl,⟨by grind [W.st],by grind [W.es,qns]⟩⟩
  obtain⟨E',X',k1,k2,k3⟩:=qq1 l (k+1) _ _ E1 X1 aa ad h1 h2 h;have af:k+(o::l).length=k+1+l.length:=by grind
  rw[af];have k4:∀j,j<k\/k+1+l.length<=j->E' j=E j/\X' j=X j:=(by grind)
  refine⟨E',X',k4,λi o' hi aj ag=>?_,k3⟩
  by_cases e:i=k
  ·subst e;obtain rfl:=Bb (ho.symm.trans ag);refine⟨es,H,U,V,(by grind),?_⟩
   simp_all
  grind
theorem q54{A:Nat->Oper->EL α->Eb->Option DZ->α->Prop}{B:EL α->Eb->Prop}(x:α)(h:regX A B ops.toList 0 [] ρ):∃E X,(∀i o,ops[i]?=some o->∃es U H,(∀vals,H=frE U vals ρ)/\Sofar ops E X i es U/\A i o es H (E i) (X i))/\
  ∃es U H,(∀vals,H=frE U vals ρ)/\Sofar ops E X ops.size es U/\B es H:=by
 obtain⟨E,X,_,V,W⟩:=qq1 (ops:=ops) (ρ:=ρ) _ 0 [] ρ (λ_=>none) (λ_=>x) [] Js (λ_=>rfl) ⟨by simp,by simp⟩ h
 grind
theorem qdt{es:EL α}{x:Nat×α}(h:qhh es k=some x):(k,x)∈es:=by
 induction es<;>grind [qhh,Nat.eq_of_beq_eq_true]
theorem qjj{es:EL α}{x:Nat×α}(h:(k,x)∈es):k∈idxs es/\∃x,qhh es k=some x:=by
 induction es with
 | nil=>cases h
 | cons y es H=>
  obtain⟨i,y⟩:=y;simp only[qhh,idxs];cases U:Nat.beq i k
  ·rcases AB.1 h with e|h
   all_goals simp_all
  simp_all
def subA(es:EL α)(H:Ef):List (Nat×Nat×Option DZ):=H.filterMap λk=>(qhh es k).map λx=>(k,x.1,none)
theorem Sofar.kn{X:Nat->α}{es:EL α}{st:List (Nat×Nat×Option DZ)}(U:Sofar ops E X i es st){ks:Ef}(hk:∀k x,(k,x)∈es->pr k->k∈ks):Kn ops E i pr (st++subA es ks):=by
 refine⟨λk d v H=>?_,λk o d aa hp ho hd=>?_⟩
 ·rcases Bc.1 H with H|H
  ·obtain⟨h1,h2,_,h3⟩:=(U.st _ _ _).1 H
   simp_all
  ·obtain⟨k',_,h⟩:=DI.1 H;obtain⟨x,V,e⟩:=CO.1 h;cases e;obtain⟨h1,h2,_,h3⟩:=(U.es _ _ _).1 (qdt V)
   simp_all
 ·cases he:E k with
  | some c=>exact Aj _ ((U.st _ _ _).2 (by grind))
  | none=>
   have H:=(U.es k d (X k)).2 (by grind);obtain⟨x,V⟩:=(qjj H).2;obtain⟨_,_,_,o',W,Z⟩:=(U.es _ _ _).1 (qdt V);obtain rfl:=Bb (ho.symm.trans W);obtain rfl:=Bb (hd.symm.trans Z);exact Ac _ (DI.2 ⟨k,hk _ _ H hp,by rw[V];rfl⟩)
end
theorem quf{es:EL Ea}{vals:Eb}{w:DU}{K:Eb->Prop}:∀(H:Ef) (ρ:Eb),(∀k d V,qhh es k=some (d,V)->k∈H->V (vals k) w)->allA es H ρ w K->K (frE (subA es H) vals ρ)
 | [],_,_,h=>h
 | k::H,ρ,Z,h=>by
  unfold allA at h;have W:=λρ h=>quf (vals:=vals) (K:=K) H ρ (λk' d V hl hm=>Z k' d V hl (Da _ hm)) h
  unfold subA at W|-;cases U:qhh es k with
  | none=>rw[U]at h;simpa[U]using W _ h
  | some x=>
   rw[U]at h;have:=W _ (h _ (Z k _ _ U (AV ..)))
   simpa[U,frE]using this
theorem q53{P:DW}{ops:List Oper}{w0:DU}{Q:Eb->Ec}:∀(l:List Oper) (k:Nat) (es:EL Ea) (ρ:Eb),regD P ops w0 Q l k es ρ->
  regX (λ_ o es ρ v U=>(∀u w,U u w->isG v u)/\(∀u w w',U u w->Ext w w'->U u w')/\∀w,Ext w0 w->allA es (qa3 o) ρ w λH=>qds P ops o H w λv w'=>Ext w w'/\U v w') (λes ρ=>∀w,Ext w0 w->allA es (idxs es) ρ w λH=>Q H w) l k es ρ
 | [],_,_,_,h=>h
 | _::l,_,_,_,⟨.inl ⟨v,V,W⟩⟩=>⟨some v,_,⟨λ_ _ h=>h,(by grind),V⟩,q53 l _ _ _ W⟩
 | _::l,_,_,_,⟨.inr ⟨U,Z,V,W⟩⟩=>⟨none,U,⟨λ_ _ _=>trivial,Z,V⟩,q53 l _ _ _ W⟩
theorem AnyV.free(hB:qke n ops=true)(h:regD P ops.toList w.drew R ops.toList 0 [] ρ):AnyV P n ops R ρ w:=by
 obtain⟨E,X,h1,es,st,ad,Z,U,h2⟩:=q54 (λ_ _=>True) (q53 _ _ _ _ h);refine .core (E:=E) (I:=λS vals H=>Ext w.drew H/\∀(k:Nat) (o:Oper),ops[k]?=some o->S k=true->X k (vals k) H) hB (λvals=>⟨Ext.refl _,λk o ho hk=>?_⟩) (λi o ho=>?_) ⟨_,U.kn (ks:=idxs es) (by grind [qjj]),λvals H W=>?_⟩
 ·simp_all
 ·obtain⟨es,st,ae,Z,U,hv,_,h3⟩:=h1 i o ho;refine⟨_,U.kn (ks:=qa3 o) λ_ _ _ h=>h,λS vals H hS hp W=>⟨λv w'=>Ext H w'/\X i v w',?_,λv' w' ⟨hx,aa⟩=>⟨hv _ _ aa,W.1.trans hx,λk o' V hk=>?_⟩⟩⟩
  ·rw[qb5,<-Z vals];exact quf _ _ (λk d φ hl hm=>by
    obtain⟨_,_,e,o',V,_⟩:=(U.es _ _ _).1 (qdt hl)
    grind) (h3 H W.1)
  grind [qem,qc1,qa1]
 ·rw[qb5,<-Z vals];exact quf _ _ (λk d φ hl _=>by
   obtain⟨_,_,e,o',V,_⟩:=(U.es _ _ _).1 (qdt hl)
   grind) (h2 H W.1)
theorem q3g{vals:Eb}:∀(es:EL Unit) (ρ:Eb),frG es vals ρ=frE (es.map λx=>(x.1,x.2.1,none)) vals ρ
 | [],_=>rfl
 | _::es,_=>q3g es _
theorem Sofar.knG{X:Nat->Unit}{es:EL Unit}{V:List (Nat×Nat×Option DZ)}(U:Sofar ops E X i es V):Kn ops E i pr (V++es.map λx=>(x.1,x.2.1,none)):=by
 refine⟨λk d v H=>?_,λk o d W hp ho hd=>?_⟩
 ·rcases Bc.1 H with H|H
  ·obtain⟨Z,h2,_,h3⟩:=(U.st _ _ _).1 H
   simp_all
  ·obtain⟨x,hx,e⟩:=AF.1 H;cases e;obtain⟨Z,h2,_,h3⟩:=(U.es _ _ _).1 hx
   simp_all
 ·cases he:E k with
  | some c=>exact Aj _ ((U.st _ _ _).2 (by grind))
  | none=>exact Ac _ (AF.2 ⟨_,(U.es k d (X k)).2 (by grind),rfl⟩)
theorem qadk{P:DW}{ops:List Oper}{I:(Nat->Bool)->Eb->Ec}{Q:Eb->Ec}:∀(l:List Oper) (k:Nat) (es:EL Unit) (ρ:Eb),regG P ops I Q l k es ρ->
  regX (λk o es ρ v _=>∀S vals w,S k=false->(∀j∈qa3 o,S j=true)->I S vals w->qds P ops o (frG es vals ρ) w λH w'=>isG v H/\I (setS S k) (upd vals k H) w') (λes ρ=>∀vals w,I (λ_=>true) vals w->Q (frG es vals ρ) w) l k es ρ
 | [],_,_,_,h=>h
 | _::l,_,_,_,⟨v,U,V⟩=>⟨v,_,U,qadk l _ _ _ V⟩
theorem AnyV.gen(I:(Nat->Bool)->Eb->Ec)(U:qke n ops=true)(V:∀vals,I (λj=>Nat.ble ops.size j) vals w.drew)(h:regG P ops.toList I R ops.toList 0 [] ρ):AnyV P n ops R ρ w:=by
 obtain⟨E,X,W,es,Z,aa,hr,H,h2⟩:=q54 () (qadk _ _ _ _ h);refine .core (E:=E) (I:=I) U V (λi o ho=>?_) ⟨_,H.knG,λvals w1 hI=>?_⟩
 ·obtain⟨es,Z,ad,hr,H,h3⟩:=W i o ho;refine⟨_,H.knG,λS vals w1 hS hp hI=>⟨_,?_,λv' w' h=>h⟩⟩
  grind [qb5,q3g]
 grind [qb5,q3g]
theorem qyz{P:DW}{ops:List Oper}{I:(Nat->Bool)->Ec}{Q:Eb->Ec}:∀(l:List Oper) (k:Nat) (ρ:Eb),regI P ops I Q l k ρ->regG P ops (λS _ w=>I S w) Q l k [] ρ
 | [],_,_,h=>λ_ w H=>h w H
 | o::l,k,ρ,⟨v,U,V⟩=>⟨some v,λS _ w W Z H=>U S w W Z H,by
  have:qns k () [] o.dst (some v)=[]:=by cases o.dst<;>rfl
  rw[this];exact qyz l _ _ V⟩
end
section
variable {P:DW} {n id:Nat} {ops:Array Oper} {Q:Exit->Eb->Ec} {ρ:Eb} {w:DU}
theorem DrawV.free(U:P.follows .mixedOrders=true)(V:qke n ops=true)(h:regD P ops.toList w.drew (λH w'=>Q .normal H w') ops.toList 0 [] ρ):DrawV P n id ops Q ρ w:=(AnyV.free V h).draw U
theorem DrawV.gen(I:(Nat->Bool)->Eb->Ec)(U:P.follows .mixedOrders=true)(V:qke n ops=true)(W:∀vals,I (λj=>Nat.ble ops.size j) vals w.drew)(h:regG P ops.toList I (λH w'=>Q .normal H w') ops.toList 0 [] ρ):DrawV P n id ops Q ρ w:=(AnyV.gen I V W h).draw U
theorem DrawV.inv(I:(Nat->Bool)->Ec)(U:P.follows .mixedOrders=true)(V:qke n ops=true)(W:I (λj=>Nat.ble ops.size j) w.drew)(h:regI P ops.toList I (λH w'=>Q .normal H w') ops.toList 0 ρ):DrawV P n id ops Q ρ w:=.gen (λS _ w=>I S w) U V (λ_=>W) (qyz _ _ _ h)
end
end V
namespace V
def resC(P:DW)(ρ:Eb)(w:DU):List ResultVar->(Ee->Prop)->Prop
 | [],K=>K []
 | .tmp t::l,K=>qjg (ρ t) λv=>resC P ρ w l λvs=>K (v::vs)
 | .cell c H::l,K=>q0c P H (ρ c) w λv=>resC P ρ w l λvs=>K (v::vs)
def one(vs:Ee):DZ:=
 match vs with
 | [v]=>v
 | l=>.tuple l.toArray
theorem q0d{t:DX}{K:DZ->Prop}(h:q0c P t x w K):∃v,(do loadVar t (<-asAddr x):Sem DZ).run P w=.ok v w/\K v:=by
 unfold q0c at h
 split at h
 ·rename_i d b off hu
  cases V:aggD d<;>rw[V]at h
  ·obtain⟨v,H,U⟩:=h
   simp_all[qbt,asAddr,loadVar,qek]
  ·cases W:hasT P t<;>rw[W]at h
   ·exact h.elim
   ·obtain⟨cs,hl,Z,U⟩:=h;rw[qao]at U;refine⟨_,?_,U⟩;have:=run_loadCells_list (P:=P) w ⟨b,off,none⟩ cs (λj v H=>by
     have hj:j<cs.length:=by
      rcases Bj j cs.length with h|h
      ·exact h
      ·rw[Bh h]at H;cases H
     rw[qas,Z j Oo];exact H)
    simp_all[asAddr,loadVar,qek,qab]
 ·exact h.elim
theorem qag8{H:Eh}(U:∀t,H.getD t undef=ρ t)(l:List ResultVar):∀K:Ee->Prop,resC P ρ w l K->
  ∃vs,(l.mapM (resF H)).run P w=.ok vs w/\K vs:=by
 induction l with
 | nil=>intro K h;exact⟨[],by simp,h⟩
 | cons x l W=>
  intro K h;cases x with
  | tmp t=>
   simp only[resC,qbt]at h
   grind [Sem.run_bind,resF,Sem.run_pure,Result.andThen_ok]
  | cell c V=>
   simp only[resC]at h;obtain⟨v,Z,hk⟩:=q0d h;obtain⟨vs,h1,h2⟩:=W _ hk;refine⟨v::vs,?_,h2⟩;have e:resF H (.cell c V)=(do loadVar V (<-asAddr (ρ c))):=by rw[<-U];rfl
   rw[List.mapM_cons,Sem.run_bind,e,Z,Result.andThen_ok,Sem.run_bind,h1];rfl
theorem qi{n:Nat}{H:Func}(h:resC P ρ w H.results.toList λvs=>R (one vs) w):
  ∀a,St n ρ a->∃v,(results H a.tmps).run P w=.ok v w/\R v w:=by
 intro a U;obtain⟨vs,V,W⟩:=qag8 U.get H.results.toList _ h;refine⟨one vs,?_,W⟩;have e:results H a.tmps=(do let vs <-H.results.mapM (resF a.tmps);pure (if h:vs.size=1 then vs[0]else .tuple vs)):=by
  rfl
 rw[e,De];simp[V]
 match vs with
 | [v]=>rfl
 | []=>rfl
 | v::u::l=>simp[one]
end V
namespace V
structure Chg(w w':DU)(B:List (Option Nat)):Prop where
 os:w'.os=w.os
 tape:w'.tape=w.tape
 output:w'.output=w.output
 size:w.heap.size<=w'.heap.size
 block:∀k,k<w.heap.size->some k∉B->w'.heap[k]?=w.heap[k]?
theorem Chg.ext{B:List (Option Nat)}(h:Ext w w'):Chg w w' B:=⟨h.os,h.tape,h.output,h.size,λk H _=>h.block k H⟩
def q9y(u:Option Nat)(i:Option Nat):Bool:=
 match u with
 | none=>true
 | some a=>match i with
  | none=>false
  | some b=>Nat.beq a b
abbrev AL:=EL (Option Nat×Ea)
def allO(base:Nat)(es:AL)(i:Option Nat):Ef->Eb->DU->(Eb->Prop)->Prop
 | [],ρ,_,K=>K ρ
 | k::H,ρ,w,K=>
  match qhh es k with
  | some (d,u,U)=>bif q9y u i then ∀v,U v w->(∀g,v.ownBlock=some g->base<=g/\g<w.heap.size)->allO base es i H (upd ρ d v) w K else ∀v,allO base es i H (upd ρ d v) w K
  | none=>allO base es i H ρ w K
def qni(es:AL)(i:Nat):Ef->Eb->List (Option Nat)
 | [],_=>[]
 | k::H,ρ=>
  match qhh es k with
  | some (d,u,_)=>match u with
   | some j=>bif Nat.beq j i then(ρ d).ownBlock::qni es i H ρ else qni es i H ρ
   | none=>qni es i H ρ
  | none=>qni es i H ρ
def Loc(base:Nat)(H:Ea):Prop:=
 ∀v w w',H v w->(∀k,k<w.heap.size->(k<base\/v.ownBlock=some k)->w'.heap[k]?=w.heap[k]?)->w.heap.size<=w'.heap.size->H v w'
def PostO(w:DU)(B:List (Option Nat))(H:Bool)(U:Ea)(v:DZ)(w':DU):Prop:=
 Chg w w' B/\U v w'/\(H=false->∀g,v.ownBlock=some g->g<w'.heap.size/\(some g∈B\/w.heap.size<=g))
structure StepO(base:Nat)(A:Bool->Ea->Prop)(K:Option DZ->Option Nat->Ea->Prop):Prop where
 h:(∃v,A true (λu _=>u=v)/\K (some v) none (λu _=>u=v))\/(∃u φ,Loc base φ/\A false φ/\K none u φ)
theorem StepO.still{A:Bool->Ea->Prop}{K:Option DZ->Option Nat->Ea->Prop}(v:DZ)(h:A true (λu _=>u=v))(H:K (some v) none (λu _=>u=v)):StepO base A K:=⟨(by grind)⟩
def regO(P:DW)(ops:List Oper)(w0:DU)(Q:Eb->Ec):List Oper->Nat->AL->Eb->Prop
 | [],_,_,_=>False
 | [o],k,es,ρ=>∀w,Ext w0 w->allO w0.heap.size es (some k) (idxs es) ρ w λH=>qds P ops o H w λv w'=>Q (updO H o.dst (some v)) w'
 | o::l,k,es,ρ=>StepO w0.heap.size
   (λU V=>∀w,Ext w0 w->allO w0.heap.size es (some k) (qa3 o) ρ w λH=>qds P ops o H w (PostO w (qni es k (qa3 o) H) U V))
   (λv u V=>regO P ops w0 Q l (k+1) (qns k (u,V) es o.dst v) (updO ρ o.dst v))
section
variable {P:DW} {n:Nat} {ops:Array Oper} {base:Nat}
theorem qsd{H U:Eb}:∀(es:List (Nat×Nat×Option DZ)) (ρ:Eb),(∀k d v,(k,d,v)∈es->H k=U k)->frE es H ρ=frE es U ρ
 | [],_,_=>rfl
 | (k,d,v)::es,ρ,h=>by
  rw[frE,frE,h k d v (AV ..)];exact qsd es _ λk d v V=>h k d v (Da _ V)
theorem qug{es:AL}{i:Option Nat}{vals:Eb}{w:DU}{K:Eb->Prop}:∀(H:Ef) (ρ:Eb),
  (∀k d u U,qhh es k=some (d,u,U)->k∈H->q9y u i=true->U (vals k) w/\∀g,(vals k).ownBlock=some g->base<=g/\g<w.heap.size)->allO base es i H ρ w K->K (frE (subA es H) vals ρ)
 | [],_,_,h=>h
 | k::H,ρ,V,h=>by
  unfold allO at h;have Z:=λρ h=>qug (vals:=vals) (K:=K) H ρ (λk' d u U hl hm=>V k' d u U hl (Da _ hm)) h
  unfold subA at Z|-;cases W:qhh es k with
  | none=>rw[W]at h;simpa[W]using Z _ h
  | some x=>
   obtain⟨d,u,U⟩:=x;rw[W]at h;have V:=V k d u U W (AV ..);have:K (frE (H.filterMap λk=>(qhh es k).map λx=>(k,x.1,none)) vals (upd ρ d (vals k))):=by
    simp only at h;cases hb:q9y u i<;>rw[hb]at h
    ·exact Z _ (h _)
    ·exact Z _ (h _ (V hb).1 (V hb).2)
   simpa[W,frE]using this
theorem qt8{es:AL}{i:Nat}{ρ:Eb}{g:Nat}:∀H,some g∈qni es i H ρ->∃k d U,k∈H/\qhh es k=some (d,some i,U)/\(ρ d).ownBlock=some g
 | [],h=>by cases h
 | k::H,h=>by
  have Z:=qt8 (es:=es) (i:=i) (ρ:=ρ) (g:=g) H;unfold qni at h
  split at h
  ·rename_i d u U W
   split at h
   ·rename_i j
    cases V:Nat.beq j i<;>rw[V]at h
    ·grind
    ·have:=Bl V;subst this
     rcases AB.1 h with h|h
     ·exact⟨k,d,U,AV ..,W,h.symm⟩
     ·grind
   ·grind
  ·grind
def Live(X:Nat->Option Nat×Ea)(S:Nat->Bool)(k:Nat):Prop:=S k=true/\∀j,(X k).1=some j->S j=false
structure InvO(base m:Nat)(E:Nat->Option DZ)(X:Nat->Option Nat×Ea)(S:Nat->Bool)(vals:Eb)(w:DU):Prop where
 φ:∀k,k<m->Live X S k->(X k).2 (vals k) w
 own:∀k g,k<m->E k=none->Live X S k->(vals k).ownBlock=some g->base<=g/\g<w.heap.size
 apart:∀k k' g,k<m->k'<m->E k=none->E k'=none->Live X S k->Live X S k'->k≠k'->(vals k).ownBlock=some g->(vals k').ownBlock≠some g
theorem qod{X:Nat->Option Nat×Ea}{S:Nat->Bool}(h:q9y (X k).1 (some i)=true)(H:S k=true)(hi:S i=false):Live X S k:=by
 refine⟨H,λj U=>?_⟩;rw[U]at h;have:j=i:=Bl h
 simp_all
theorem InvO.step{X:Nat->Option Nat×Ea}{S:Nat->Bool}{v:DZ}{B:List (Option Nat)}(J:InvO base m E X S vals w)(hi:S i=false)(av:base<=w.heap.size)(af:∀k,k<m->E k=none->Loc base (X k).2)(aw:∀k,k<m->E k≠none->∀x w w',(X k).2 x w->(X k).2 x w')(hB:∀g,some g∈B->∃k,k<m/\E k=none/\(X k).1=some i/\S k=true/\(vals k).ownBlock=some g)(h:PostO w B (E i).isSome (X i).2 v w'):InvO base m E X (setS S i) (upd vals i v) w':=by
 obtain⟨V,ax,ag⟩:=h;have ae:∀g,some g∈B->∃k,k<m/\E k=none/\(X k).1=some i/\Live X S k/\(vals k).ownBlock=some g:=λg W=>by
  obtain⟨k,h1,h2,h3,h4,h5⟩:=hB g W;exact⟨k,h1,h2,h3,⟨h4,λj hj=>by rw[h3]at hj;cases hj;exact hi⟩,h5⟩
 have au:∀g,some g∈B->base<=g/\g<w.heap.size:=λg W=>by
  obtain⟨k,h1,h2,_,h4,h5⟩:=ae g W;exact J.own k g h1 h2 h4 h5
 have ad:∀{k},Live X (setS S i) k->k=i\/(k≠i/\Live X S k/\(X k).1≠some i):=λ{k} ⟨h1,h2⟩=>by
  rcases qem h1 with rfl|⟨U,h1⟩
  ·omega
  ·refine .inr ⟨U,⟨h1,λj hj=>?_⟩,λhu=>?_⟩
   all_goals simp_all[setS]
 have new:∀k g,k<m->E k=none->Live X S k->(X k).1≠some i->E i=none->v.ownBlock=some g->(vals k).ownBlock≠some g:=λk g U hE H hu ak W Z=>by
  rcases(ag (by rw[ak];rfl) g W).2 with h2|h2
  ·obtain⟨k2,h3,h4,h5,h6,h7⟩:=ae g h2;exact J.apart k k2 g U h3 hE h4 H h6 (by grind) Z h7
  ·have:=(J.own k g U hE H Z).2;omega
 refine⟨λk U H=>?_,λk g U hE H W=>?_,λk k' g U al hE am H an ao W Z=>?_⟩
 ·rcases ad H with rfl|⟨aa,H,hu⟩
  ·grind [qc1]
  ·rw[qa1 _ _ _ _ aa];have ah:=J.φ k U H
   by_cases hE:E k=none
   ·refine af k U hE _ w w' ah (λb hb aq=>V.block b hb λai=>?_) V.size
    rcases aq with h|h
    ·grind
    ·obtain⟨k2,h3,h4,h5,h6,h7⟩:=ae b ai;exact J.apart k k2 b U h3 hE h4 H h6 (by grind) h h7
   grind
 ·rcases ad H with rfl|⟨aa,H,hu⟩
  ·grind [qc1]
  ·rw[qa1 _ _ _ _ aa]at W;have:=J.own k g U hE H W;have:=V.size;omega
 ·rcases ad H with rfl|⟨aa,kl,hu⟩<;>rcases ad an with rfl|⟨aj,ar,ay⟩
  ·omega
  ·grind [qc1,qa1]
  ·grind [qc1,qa1]
  ·rw[qa1 _ _ _ _ aa]at W;rw[qa1 _ _ _ _ aj]at Z;exact J.apart k k' g U al hE am kl ar ao W Z
def AO(P:DW)(ops:List Oper)(w0:DU)(k:Nat)(o:Oper)(es:AL)(ρ:Eb)(v:Option DZ)(x:Option Nat×Ea):Prop:=
 (v=none->Loc w0.heap.size x.2)/\(v≠none->∀u w w',x.2 u w->x.2 u w')/\(∀u w,x.2 u w->isG v u)/\∀w,Ext w0 w->allO w0.heap.size es (some k) (qa3 o) ρ w λH=>qds P ops o H w (PostO w (qni es k (qa3 o) H) v.isSome x.2)
theorem qadl{ops:List Oper}{w0:DU}{Q:Eb->Ec}:∀(l:List Oper) (k:Nat) (es:AL) (ρ:Eb),regO P ops w0 Q l k es ρ->∃H o,l=H++[o]/\
  regX (AO P ops w0)
   (λes ρ=>∀w,Ext w0 w->allO w0.heap.size es (some (k+H.length)) (idxs es) ρ w λU=>qds P ops o U w λv w'=>Q (updO U o.dst (some v)) w') H k es ρ
 | [],_,_,_,h=>h.elim
 | [o],k,es,ρ,h=>⟨[],o,rfl,h⟩
 | o::W::l,k,es,ρ,h=>by
  have V:∀v x,AO P ops w0 k o es ρ v x->regO P ops w0 Q (W::l) (k+1) (qns k x es o.dst v) (updO ρ o.dst v)->∃H Z,o::W::l=H++[Z]/\regX (AO P ops w0) (λes ρ=>∀w,Ext w0 w->allO w0.heap.size es (some (k+H.length)) (idxs es) ρ w λU=>qds P ops Z U w λv w'=>Q (updO U Z.dst (some v)) w') H k es ρ:=λv x hA hK=>by
   obtain⟨H,o',e,hX⟩:=qadl (W::l) _ _ _ hK;refine⟨o::H,o',by rw[e];rfl,v,x,hA,?_⟩;rw[show k+(o::H).length=k+1+H.length by rw[AC];omega];exact hX
  obtain⟨v,h1,h2⟩|⟨u,φ,h0,h1,h2⟩:=StepO.h h
  ·exact V (some v) (none,_) ⟨(nomatch ·),Js,λ_ _ h=>h,h1⟩ h2
  ·exact V none (u,φ) ⟨λ_=>h0,Js,λ_ _ _=>trivial,h1⟩ h2
end
def qbu(ops:Array Oper):Bool:=
 match ops[ops.size-1]? with
 | some o=>(List.range (ops.size-1)).all λk=>(qa3 o).contains k
 | none=>false
theorem DrawV.own{n:Nat}{Q:Exit->Eb->Ec}(Z:P.follows .mixedOrders=true)(hB:(qke n ops&&qbu ops)=true)(h:regO P ops.toList w.drew (λH w'=>Q .normal H w') ops.toList 0 [] ρ):DrawV P n id ops Q ρ w:=by
 obtain⟨hW,hL⟩:=Bool.and_eq_true_iff.1 hB;obtain⟨l,ol,el,hX⟩:=qadl _ _ _ _ h;have hS:=qtv hW;obtain⟨m,em⟩:∃m,m=l.length:=⟨_,rfl⟩
 have a1:ops.size=m+1:=by have:=Ae List.length el;grind
 have an:ops[m]?=some ol:=by rw[<-CU,el,em];simp
 have ao:∀k,k<m->k∈qa3 ol:=λk V=>by
  simp_all[qbu]
 obtain⟨E,X,V,h1,es,st,a2,hr,hs,h2⟩:=qq1 (ops:=ops) (ρ:=ρ) l 0 [] ρ (λ_=>none) (λ_=>(none,λ_ _=>True)) [] (λj o hj=>by
  rw[<-CU,el,As,Ba (Af.1 hj).1];exact hj) (λ_=>rfl) ⟨by simp,by simp⟩ hX
 rw[As,<-em]at hs h2;have h1:=λi o (hi:i<m) ho=>h1 i o (Ag _) Oo ho
 have aq:E m=none:=(by grind)
 have kn:=hs.kn (pr:=λ_=>True) (ks:=idxs es) (by grind [qjj]);obtain⟨ea,ai⟩:∃ea,ea=st++subA es (idxs es):=⟨_,rfl⟩
 rw[<-ai]at kn;obtain⟨eb,ar⟩:∃eb:List (Nat×Nat×Option DZ),eb=match ol.dst with|some d=>[(m,d,none)]|none=>[]:=⟨_,rfl⟩
 have af:∀vals H,frE eb vals H=updO H ol.dst (some (vals m)):=λvals H=>by subst ar;cases ol.dst<;>rfl
 have aj:∀{S:Nat->Bool} {vals:Eb} {U:DU},(bif S m then(∀j,j<m->S j=true)/\Q .normal (frE (ea++eb) vals ρ) U else Ext w.drew U/\InvO w.drew.heap.size m E X S vals U)->S m=false->Ext w.drew U/\InvO w.drew.heap.size m E X S vals U:=(by grind)
 refine(AnyV.core (E:=E) (I:=λS vals U=>bif S m then(∀j,j<m->S j=true)/\Q .normal (frE (ea++eb) vals ρ) U else Ext w.drew U/\InvO w.drew.heap.size m E X S vals U) hW (λvals=>?_) (λi o ho=>?_) ⟨ea++eb,⟨λk d v Z=>?_,λk o d V _ ho hd=>?_⟩,Js⟩).draw Z
 ·have no:∀{k},k<=m->Nat.ble ops.size k=false:=λ{k} V=>CW.2 λe=>by have:=CB e;omega
  have nl:∀{k},k<m->¬Live X (λj=>Nat.ble ops.size j) k:=λ{k} V hl=>by have h:Nat.ble ops.size k=true:=hl.1;grind
  show bif Nat.ble ops.size m then _ else _;rw[no (Ai _)];exact⟨Ext.refl _,(by grind),(by grind),(by grind)⟩
 ·have hi:=(Cg.1 ho).1
  rcases Bj i m with ak | ak
  ·obtain⟨aa,al,a3,au,ag,_,_,hv,av⟩:=h1 i o ak ho;have ah:=ag.kn (pr:=(·∈qa3 o)) (ks:=qa3 o) λ_ _ _ h=>h
   refine⟨_,ah,λS vals U ae hp hI=>?_⟩;cases aw:S m with
   | true=>grind
   | false=>
    obtain⟨hx,J⟩:=aj hI aw;have hB:∀g,some g∈qni aa i (qa3 o) (frE (al++subA aa (qa3 o)) vals ρ)->∃k,k<m/\E k=none/\(X k).1=some i/\S k=true/\(vals k).ownBlock=some g:=λg hg=>by
     obtain⟨k,d,φ,V,hl,ax⟩:=qt8 _ hg;obtain⟨h3,h4,h5,ok,h6,h7⟩:=(ag.es _ _ _).1 (qdt hl);refine⟨k,by omega,h4,by rw[h5],hp k V,?_⟩;rw[<-ax]
     congr 1
     refine(qx1 _ _ (λk' v Z=>?_) (.inr ⟨k,_,ah.all k ok d h3 V h6 h7⟩)).symm;obtain⟨_,h8,ay,h9,az⟩:=ah.in_ _ _ _ Z;obtain rfl:=hS.uniq k ok k' ay d h6 h9 az h7
     grind
    refine⟨PostO U (qni aa i (qa3 o) (frE (al++subA aa (qa3 o)) vals ρ)) (E i).isSome (X i).2,?_,λv' w' W=>⟨hv _ _ W.2.1,?_⟩⟩
    ·rw[qb5,<-au vals];refine qug (K:=λH=>qds P ops.toList o H U (PostO U (qni aa i (qa3 o) H) (E i).isSome (X i).2)) _ _ (λk d u φ hl Z a0=>?_) (av U hx);obtain⟨h3,h4,h5,_⟩:=(ag.es _ _ _).1 (qdt hl);have ad:Live X S k:=(by grind [qod])
     exact⟨by have:=J.φ k Oo ad;simp_all,λg hg=>J.own k g Oo h4 ad hg⟩
    ·have e:setS S i m=false:=by
      grind [setS,Nat.eq_of_beq_eq_true]
     show bif setS S i m then _ else _;rw[e];refine⟨⟨W.1.os.trans hx.os,W.1.tape.trans hx.tape,W.1.output.trans hx.output,AI hx.size W.1.size,λk V=>?_⟩,J.step ae hx.size (λk V hE=>?_) (λk V hE=>?_) hB W⟩
     ·rw[W.1.block k (Bf V hx.size) λZ=>?_]
      ·exact hx.block k V
      ·obtain⟨k',h3,h4,h5,h6,h7⟩:=hB k Z;have:=(J.own k' k h3 h4 ⟨h6,λj hj=>by rw[h5]at hj;cases hj;exact ae⟩ h7).1;omega
     ·obtain⟨_,_,_,_,_,h,_⟩:=h1 k _ V (Cl Oo);exact h hE
     ·obtain⟨_,_,_,_,_,_,h,_⟩:=h1 k _ V (Cl Oo);exact h hE
  ·obtain rfl:i=m:=by omega
   obtain rfl:=Bb (an.symm.trans ho);refine⟨ea,⟨kn.in_,λk o d V _=>kn.all k o d V trivial⟩,λS vals U ae hp hI=>?_⟩;obtain⟨hx,J⟩:=aj hI ae;refine⟨λv w'=>Q .normal (updO (frE ea vals ρ) ol.dst (some v)) w',?_,λv' w' hq=>⟨by rw[aq];trivial,?_⟩⟩
   ·rw[ai,qb5,<-hr vals];refine qug (K:=λH=>qds P ops.toList ol H U λv w'=>Q .normal (updO H ol.dst (some v)) w') _ _ (λk d u φ hl _ a0=>?_) (h2 U hx);obtain⟨h3,h4,h5,_⟩:=(hs.es _ _ _).1 (qdt hl);have ad:Live X S k:=(by grind [qod])
    exact⟨by have:=J.φ k h3 ad;simp_all,λg hg=>J.own k g h3 h4 ad hg⟩
   ·have e:setS S i i=true:=by simp[setS]
    show bif setS S i i then _ else _;rw[e];refine⟨(by grind [setS]),?_⟩;rw[qb5,af,qc1,qsd ea ρ λk d v Z=>?_]
    ·exact hq
    ·exact qa1 _ _ _ _ (Nat.ne_of_lt (kn.in_ _ _ _ Z).1)
 ·rcases Bc.1 Z with Z|Z
  ·obtain⟨h3,h4⟩:=kn.in_ _ _ _ Z
   grind
  grind
 ·rcases Bj k m with am | am
  ·exact Aj _ (kn.all k o d am trivial ho hd)
  grind
end V
namespace V
theorem zA{a b k:Prop}(h:k)(H:a:=by omega)(U:b:=by omega):Obl (a/\b) k:=⟨⟨H,U⟩,h⟩
theorem zB{a b c d k:Prop}(h:k)(H:a:=by omega)(U:b:=by omega)(V:c:=by omega)(W:d:=by omega):Obl (a/\b/\c/\d) k:=⟨⟨H,U,V,W⟩,h⟩
theorem zC{c:Prop}[Decidable c](H:c->p)(U:¬c->q):Tst (decide c) p q:=.dec H U
theorem zY{c:Prop}[Decidable c](h:c->p)(H:c:=by omega):Tst (decide c) p q:=.dec h λg=>absurd H g
theorem zN{c:Prop}[Decidable c](h:¬c->q)(H:¬c:=by omega):Tst (decide c) p q:=.dec (λg=>absurd g H) h
theorem zV{k:IntKind}{n:Int}{K:Int->Prop}(H:K n)(h:InR k n:=by exact⟨by omega,by omega⟩):Wit (λr=>k.wrap n=r) K:=⟨n,h.wrap,H⟩
theorem zX{n:Nat}{K:Nat->Prop}(H:K j)(h:j<n:=by omega):IdxV (j:Int) n K:=⟨j,rfl,h,H⟩
theorem zJ{i:Int}{n:Nat}(j:Nat){K:Nat->Prop}(H:K j)(e:i=(j:Int):=by rfl)(h:j<n:=by decide):IdxV i n K:=⟨j,e,h,H⟩
theorem zW{k:Prop}(h:k):SameW w w k:=⟨rfl,h⟩
theorem zD{A:Ea->Prop}{K:Option DZ->Ea->Prop}{v:DZ}(H:K (some v) (λu _=>u=v))(h:A (λu _=>u=v):=by(intro U V;(conv=>whnf);exact⟨Ext.refl _,rfl⟩)):StepD A K:=.still v h H
theorem zI{A K:DZ->Prop}{v:DZ}(H:K v)(h:A v:=by(intro S V H W U;(conv=>whnf);exact⟨rfl,U⟩)):StepI A K:=.of v h H
theorem zG{A K:Option DZ->Prop}{v:DZ}(H:K (some v))(h:A (some v):=by(intro S vals V H W U;(conv=>whnf);exact⟨rfl,U⟩)):StepG A K:=.of v h H
theorem zM{A K:Option DZ->Prop}(H:K none)(h:A none:=by(intro S vals V H W U;(conv=>whnf);exact⟨trivial,U⟩)):StepG A K:=.any h H
theorem zO{A:Bool->Ea->Prop}{K:Option DZ->Option Nat->Ea->Prop}{v:DZ}(H:K (some v) none (λu _=>u=v))(h:A true (λu _=>u=v):=by(intro U V;(conv=>whnf);exact PostO.still (Ext.refl _) rfl)):StepO base A K:=.still v h H
theorem zT(h:p):Tst true p q:=.tt h
theorem zU(h:q):Tst false p q:=.ff h
theorem zP{b:Bool}(h:Tst b q p):Tst (!b) p q:=.not h
theorem zL{H:Nat}{t:DX}{K:Ee->Prop}(h:Mem w0 w L)(i:Nat)(U:K cs.toList)(hi:L[i]?=some (b,.cells cs t fr):=by exact rfl)(V:cs.toList.length=H:=by exact rfl):LoadA w b 0 H K:=.mem h hi V U
theorem zR{t:DX}{v:DZ}{K:DZ->Prop}(h:Mem w0 w L)(i:Nat)(H:K v)(hi:L[i]?=some (b,.cells cs t fr):=by exact rfl)(U:cs[off]?=some v:=by exact rfl):LoadV w b off K:=.mem h hi U H
theorem zE{n:Nat}{H:Func}{c:Code}(U:P.funcs[f]?=some H)(V:H.ntmps=n)(h:qfm P n c (q8k P n H R) (ini vs) w)(W:qdp P f=true:=by kernel_rfl)(Z:H.body=some c:=by exact rfl)(hl:Nat.ble vs.length n=true:=by exact rfl):Gv P f vs w R:=gv W U Z V hl h
theorem zS{t:DX}{K:Ec}(h:Mem w0 w L)(i:Nat)(H:∀w',Mem w0 w' (L.set i (b,.cells vs.toArray t (0,0)))->K w')(hi:L[i]?=some (b,.cells cur t (0,0)):=by exact rfl)(W:cur.size=vs.length:=by exact rfl)(U:∀v∈vs,v.oneCell'=true:=by simp[Value.oneCell']):StoreA P w b 0 vs K:=by
 refine StoreA.mem h hi Oo U λw' V=>H w' ?_;have e:(cur.toList.take 0++vs++cur.toList.drop (0+vs.length)).toArray=vs.toArray:=by
  rw[BH,Bn,AN Ys,B4]
 rwa[e]at V
structure Hid(q:Prop):Prop where
 h:q
theorem zw(h:q)(e:p=q:=by conv=>lhs;whnf):p:=e.mpr h
theorem zv(h:q)(e:Hid q->p:=by
  intro h
  (repeat'(first|(refine Obl.mk ⟨by omega,by omega⟩ ?_;conv=>whnf)|(refine Obl.mk ⟨by omega,by omega,⟨by omega,by omega⟩⟩ ?_;conv=>whnf)|((with_reducible refine Tst.tt ?_);conv=>whnf)|((with_reducible refine Tst.ff ?_);conv=>whnf)|((with_reducible refine Tst.dec (λ_=>?_) (λ_=>?_))<;>first|(exfalso;omega)|(conv=>whnf))|((with_reducible refine Tst.not ?_))|(refine Wit.conv ⟨by omega,by omega⟩ ?_;conv=>whnf)|((with_reducible refine IdxV.nat Oo ?_);conv=>whnf)|((with_reducible refine SameW.mk rfl ?_);conv=>whnf)|((with_reducible refine Tst.beqT ?_))|((with_reducible refine Tst.beqF ?_))|(refine Tst.yes rfl ?_;conv=>whnf)|(refine Tst.no rfl ?_;conv=>whnf)))
  exact h.1):p:=e ⟨h⟩
theorem zu(h:q)(e:Hid q->p:=by
  intro h;conv=>whnf
  (repeat'(first|(refine Obl.mk ⟨by omega,by omega⟩ ?_;conv=>whnf)|(refine Obl.mk ⟨by omega,by omega,⟨by omega,by omega⟩⟩ ?_;conv=>whnf)|((with_reducible refine Tst.tt ?_);conv=>whnf)|((with_reducible refine Tst.ff ?_);conv=>whnf)|((with_reducible refine Tst.dec (λ_=>?_) (λ_=>?_))<;>first|(exfalso;omega)|(conv=>whnf))|((with_reducible refine Tst.not ?_))|(refine Wit.conv ⟨by omega,by omega⟩ ?_;conv=>whnf)|((with_reducible refine IdxV.nat Oo ?_);conv=>whnf)|((with_reducible refine SameW.mk rfl ?_);conv=>whnf)|((with_reducible refine Tst.beqT ?_))|((with_reducible refine Tst.beqF ?_))|(refine Tst.yes rfl ?_;conv=>whnf)|(refine Tst.no rfl ?_;conv=>whnf)))
  exact h.1):p:=e ⟨h⟩
theorem zt(h:q)(e:Hid q->p:=by
  intro h
  (repeat'(first|(refine Obl.mk ⟨by omega,by omega⟩ ?_;conv=>whnf)|(refine Obl.mk ⟨by omega,by omega,⟨by omega,by omega⟩⟩ ?_;conv=>whnf)|((with_reducible refine Tst.tt ?_);conv=>whnf)|((with_reducible refine Tst.ff ?_);conv=>whnf)|((with_reducible refine zY (λ_=>?_));conv=>whnf)|((with_reducible refine zN (λ_=>?_));conv=>whnf)|((with_reducible refine Tst.not ?_))|(refine Wit.conv ⟨by omega,by omega⟩ ?_;conv=>whnf)|((with_reducible refine IdxV.nat Oo ?_);conv=>whnf)|((with_reducible refine SameW.mk rfl ?_);conv=>whnf)|((with_reducible refine Tst.beqT ?_))|((with_reducible refine Tst.beqF ?_))|(refine Tst.yes rfl ?_;conv=>whnf)|(refine Tst.no rfl ?_;conv=>whnf)))
  exact h.1):p:=e ⟨h⟩
theorem zp(h:q)(e:Hid q->p:=by
  intro h
  (first|(refine Obl.mk ⟨by omega,by omega⟩ ?_;conv=>whnf)|(refine Obl.mk ⟨by omega,by omega,⟨by omega,by omega⟩⟩ ?_;conv=>whnf)|((with_reducible refine Tst.tt ?_);conv=>whnf)|((with_reducible refine Tst.ff ?_);conv=>whnf)|((with_reducible refine zY (λ_=>?_));conv=>whnf)|((with_reducible refine zN (λ_=>?_));conv=>whnf)|((with_reducible refine Tst.not ?_))|(refine Wit.conv ⟨by omega,by omega⟩ ?_;conv=>whnf)|((with_reducible refine IdxV.nat Oo ?_);conv=>whnf)|((with_reducible refine SameW.mk rfl ?_);conv=>whnf)|((with_reducible refine Tst.beqT ?_))|((with_reducible refine Tst.beqF ?_))|(refine Tst.yes rfl ?_;conv=>whnf)|(refine Tst.no rfl ?_;conv=>whnf))
  (repeat'(first|(refine Obl.mk ⟨by omega,by omega⟩ ?_;conv=>whnf)|(refine Obl.mk ⟨by omega,by omega,⟨by omega,by omega⟩⟩ ?_;conv=>whnf)|((with_reducible refine Tst.tt ?_);conv=>whnf)|((with_reducible refine Tst.ff ?_);conv=>whnf)|((with_reducible refine zY (λ_=>?_));conv=>whnf)|((with_reducible refine zN (λ_=>?_));conv=>whnf)|((with_reducible refine Tst.not ?_))|(refine Wit.conv ⟨by omega,by omega⟩ ?_;conv=>whnf)|((with_reducible refine IdxV.nat Oo ?_);conv=>whnf)|((with_reducible refine SameW.mk rfl ?_);conv=>whnf)|((with_reducible refine Tst.beqT ?_))|((with_reducible refine Tst.beqF ?_))|(refine Tst.yes rfl ?_;conv=>whnf)|(refine Tst.no rfl ?_;conv=>whnf)))
  exact h.1):p:=e ⟨h⟩
theorem zd{A:Ea->Prop}{K:Option DZ->Ea->Prop}{v:DZ}(H:q)(h:A (λu _=>u=v):=by
  intro U V;conv=>whnf
  (repeat(intro _ _;(conv=>whnf)))
  first
  | exact⟨Ext.refl _,rfl⟩
  | refine zv ?_;exact⟨Ext.refl _,rfl⟩)(e:K (some v) (λu _=>u=v)=q:=by conv=>lhs;whnf):StepD A K:=.still v h (e.mpr H)
theorem zo{A:Bool->Ea->Prop}{K:Option DZ->Option Nat->Ea->Prop}{v:DZ}(H:q)(h:A true (λu _=>u=v):=by
  intro U V;conv=>whnf
  (repeat(intro _;(conv=>whnf)))
  first
  | exact PostO.still (Ext.refl _) rfl
  | refine zv ?_;exact PostO.still (Ext.refl _) rfl)(e:K (some v) none (λu _=>u=v)=q:=by conv=>lhs;whnf):StepO base A K:=.still v h (e.mpr H)
theorem zi{A K:DZ->Prop}{v:DZ}(H:q)(h:A v:=by
  intro S V H W U;conv=>whnf
  first
  | exact⟨rfl,U⟩
  | refine zv ?_;exact⟨rfl,U⟩)(e:K v=q:=by conv=>lhs;whnf):StepI A K:=.of v h (e.mpr H)
theorem zg{A K:Option DZ->Prop}{v:DZ}(H:q)(h:A (some v):=by
  intro S vals V H W U;conv=>whnf
  first
  | exact⟨rfl,U⟩
  | refine zv ?_;exact⟨rfl,U⟩)(e:K (some v)=q:=by conv=>lhs;whnf):StepG A K:=.of v h (e.mpr H)
theorem zm{A K:Option DZ->Prop}(H:q)(h:A none:=by
  intro S vals V H W U;conv=>whnf
  first
  | exact⟨trivial,U⟩
  | refine zv ?_;exact⟨trivial,U⟩)(e:K none=q:=by conv=>lhs;whnf):StepG A K:=.any h (e.mpr H)
theorem zLd{A:Ea->Prop}{K:Option DZ->Ea->Prop}{v:DZ}(U:q)(h:A (λu _=>u=v):=by
  intro W V;refine zu ?_;have H:=Mem.call (Mem.drew Oa) V
  first
  | (refine LoadA.mem H (i:=0) rfl rfl ?_;(conv=>whnf);exact⟨Ext.refl _,rfl⟩)
  | (refine LoadA.mem H (i:=1) rfl rfl ?_;(conv=>whnf);exact⟨Ext.refl _,rfl⟩)
  | (refine LoadA.mem H (i:=2) rfl rfl ?_;(conv=>whnf);exact⟨Ext.refl _,rfl⟩)
  | (refine LoadA.mem H (i:=3) rfl rfl ?_;(conv=>whnf);exact⟨Ext.refl _,rfl⟩)
  | (refine LoadA.mem H (i:=4) rfl rfl ?_;(conv=>whnf);exact⟨Ext.refl _,rfl⟩)
  | (refine LoadA.mem H (i:=5) rfl rfl ?_;(conv=>whnf);exact⟨Ext.refl _,rfl⟩)
  | (refine LoadV.mem H (i:=0) rfl rfl ?_;(conv=>whnf);exact⟨Ext.refl _,rfl⟩)
  | (refine LoadV.mem H (i:=1) rfl rfl ?_;(conv=>whnf);exact⟨Ext.refl _,rfl⟩)
  | (refine LoadV.mem H (i:=2) rfl rfl ?_;(conv=>whnf);exact⟨Ext.refl _,rfl⟩)
  | (refine LoadV.mem H (i:=3) rfl rfl ?_;(conv=>whnf);exact⟨Ext.refl _,rfl⟩)
  | (refine LoadV.mem H (i:=4) rfl rfl ?_;(conv=>whnf);exact⟨Ext.refl _,rfl⟩)
  | (refine LoadV.mem H (i:=5) rfl rfl ?_;(conv=>whnf);exact⟨Ext.refl _,rfl⟩))(e:K (some v) (λu _=>u=v)=q:=by conv=>lhs;whnf):StepD A K:=.still v h (e.mpr U)
theorem zLi{A K:DZ->Prop}{v:DZ}(U:q)(h:A v:=by
  intro S V U W H;conv=>whnf
  first
  | (refine LoadA.mem H (i:=0) rfl rfl ?_;(conv=>whnf);exact⟨rfl,H⟩)
  | (refine LoadA.mem H (i:=1) rfl rfl ?_;(conv=>whnf);exact⟨rfl,H⟩)
  | (refine LoadA.mem H (i:=2) rfl rfl ?_;(conv=>whnf);exact⟨rfl,H⟩)
  | (refine LoadA.mem H (i:=3) rfl rfl ?_;(conv=>whnf);exact⟨rfl,H⟩)
  | (refine LoadA.mem H (i:=4) rfl rfl ?_;(conv=>whnf);exact⟨rfl,H⟩)
  | (refine LoadA.mem H (i:=5) rfl rfl ?_;(conv=>whnf);exact⟨rfl,H⟩)
  | (refine LoadV.mem H (i:=0) rfl rfl ?_;(conv=>whnf);exact⟨rfl,H⟩)
  | (refine LoadV.mem H (i:=1) rfl rfl ?_;(conv=>whnf);exact⟨rfl,H⟩)
  | (refine LoadV.mem H (i:=2) rfl rfl ?_;(conv=>whnf);exact⟨rfl,H⟩)
  | (refine LoadV.mem H (i:=3) rfl rfl ?_;(conv=>whnf);exact⟨rfl,H⟩)
  | (refine LoadV.mem H (i:=4) rfl rfl ?_;(conv=>whnf);exact⟨rfl,H⟩)
  | (refine LoadV.mem H (i:=5) rfl rfl ?_;(conv=>whnf);exact⟨rfl,H⟩))(e:K v=q:=by conv=>lhs;whnf):StepI A K:=.of v h (e.mpr U)
theorem zLg{A K:Option DZ->Prop}{v:DZ}(U:q)(h:A (some v):=by
  intro S vals V U W H;conv=>whnf
  first
  | (refine LoadA.mem H.mem (i:=0) rfl rfl ?_;(conv=>whnf);exact⟨rfl,H⟩)
  | (refine LoadA.mem H.mem (i:=1) rfl rfl ?_;(conv=>whnf);exact⟨rfl,H⟩)
  | (refine LoadA.mem H.mem (i:=2) rfl rfl ?_;(conv=>whnf);exact⟨rfl,H⟩)
  | (refine LoadA.mem H.mem (i:=3) rfl rfl ?_;(conv=>whnf);exact⟨rfl,H⟩)
  | (refine LoadA.mem H.mem (i:=4) rfl rfl ?_;(conv=>whnf);exact⟨rfl,H⟩)
  | (refine LoadA.mem H.mem (i:=5) rfl rfl ?_;(conv=>whnf);exact⟨rfl,H⟩)
  | (refine LoadV.mem H.mem (i:=0) rfl rfl ?_;(conv=>whnf);exact⟨rfl,H⟩)
  | (refine LoadV.mem H.mem (i:=1) rfl rfl ?_;(conv=>whnf);exact⟨rfl,H⟩)
  | (refine LoadV.mem H.mem (i:=2) rfl rfl ?_;(conv=>whnf);exact⟨rfl,H⟩)
  | (refine LoadV.mem H.mem (i:=3) rfl rfl ?_;(conv=>whnf);exact⟨rfl,H⟩)
  | (refine LoadV.mem H.mem (i:=4) rfl rfl ?_;(conv=>whnf);exact⟨rfl,H⟩)
  | (refine LoadV.mem H.mem (i:=5) rfl rfl ?_;(conv=>whnf);exact⟨rfl,H⟩))(e:K (some v)=q:=by conv=>lhs;whnf):StepG A K:=.of v h (e.mpr U)
theorem zSi{A K:DZ->Prop}(W:q)(h:A undef:=by
  intro S Z W hp U
  try dsimp only at U
  rw[W]at U;conv=>whnf
  first
  | (refine StoreA.all U (i:=0) rfl rfl (by simp[Value.oneCell']) λV H=>?_;(conv=>whnf);exact⟨rfl,H⟩)
  | (refine StoreA.all U (i:=1) rfl rfl (by simp[Value.oneCell']) λV H=>?_;(conv=>whnf);exact⟨rfl,H⟩)
  | (refine StoreA.all U (i:=2) rfl rfl (by simp[Value.oneCell']) λV H=>?_;(conv=>whnf);exact⟨rfl,H⟩)
  | (refine StoreA.all U (i:=3) rfl rfl (by simp[Value.oneCell']) λV H=>?_;(conv=>whnf);exact⟨rfl,H⟩)
  | (refine StoreA.all U (i:=4) rfl rfl (by simp[Value.oneCell']) λV H=>?_;(conv=>whnf);exact⟨rfl,H⟩)
  | (refine StoreA.all U (i:=5) rfl rfl (by simp[Value.oneCell']) λV H=>?_;(conv=>whnf);exact⟨rfl,H⟩))(e:K undef=q:=by conv=>lhs;whnf):StepI A K:=.of undef h (e.mpr W)
theorem zr{t:DX}{v:DZ}{K:DZ->Prop}(h:Mem w0 w L)(i:Nat)(H:q)(hi:L[i]?=some (b,.cells cs t fr):=by exact rfl)(U:cs[off]?=some v:=by exact rfl)(e:K v=q:=by conv=>lhs;whnf):LoadV w b off K:=.mem h hi U (e.mpr H)
theorem zl{H:Nat}{t:DX}{K:Ee->Prop}(h:Mem w0 w L)(i:Nat)(U:q)(hi:L[i]?=some (b,.cells cs t fr):=by exact rfl)(V:cs.toList.length=H:=by exact rfl)(e:K cs.toList=q:=by conv=>lhs;whnf):LoadA w b 0 H K:=.mem h hi V (e.mpr U)
theorem ze{n:Nat}{H:Func}{c:Code}(U:P.funcs[f]?=some H)(V:H.ntmps=n)(h:q)(W:qdp P f=true:=by kernel_rfl)(Z:H.body=some c:=by exact rfl)(hl:Nat.ble vs.length n=true:=by exact rfl)(e:qfm P n c (q8k P n H R) (ini vs) w=q:=by conv=>lhs;whnf):Gv P f vs w R:=gv W U Z V hl (e.mpr h)
theorem zy{n:Nat}{Q:Exit->Eb->Ec}(h:q)(U:P.follows .mixedOrders=true:=by kernel_rfl)(V:Region.lexB .any ops=true:=by kernel_rfl)(e:regQ P n ops.toList w.drew (λH=>Q .normal H w.drew) ops.toList ρ=q:=by conv=>lhs;whnf):DrawV P n id ops Q ρ w:=.quiet U V (e.mpr h)
theorem xr:Ext w w:=.refl w
theorem xq{α:Type}{v:α}:Ext w w/\v=v:=⟨xr,rfl⟩
theorem zf{A:Ea->Prop}{K:Option DZ->Ea->Prop}{v:DZ}(H:q)(h:A (λu _=>u=v))(e:K (some v) (λu _=>u=v)=q:=by conv=>lhs;whnf):StepD A K:=.still v h (e.mpr H)
theorem zcv{args:Ee}(h:Gv P f args w R)(H:∀v w',R v w'->K v w'):CallV P f args w K:=.of h H
theorem zsd{A:Ea->Prop}{K:Option DZ->Ea->Prop}(v:DZ)(h:A (λu _=>u=v))(H:K (some v) (λu _=>u=v)):StepD A K:=.still v h H
theorem znm{o:Obj}{K:Nat->Ec}(h:Mem w0 w L)(H:∀b w',Mem w0 w' ((b,o)::L)->K b w'):NewV w o K:=.mem h H
end V
open Go.RowKit V
set_option maxRecDepth 100000
def qax(r:Int):Bool:=decide (0<=r/\r<=1114111/\(r<55296\/57343<r))
theorem qm0(r:Int)(b:Bool):b=qax r↔(b=true↔(0<=r/\r<=1114111/\(r<55296\/57343<r))):=by
 unfold qax;rw[AU];simp
theorem q07(r:Int)(w:DU):
  Gv Eg 288 [.int .i32 r] w λv w'=>v=.bool (qax r)/\w'=w:=by
 refine ze Tryz.func288 Tryz.ntmps288 ?_
 (repeat'(first|refine zp ?_|refine zC (λ_=>zw ?_) (λ_=>zw ?_)))
 all_goals(refine⟨Ae Value.bool ((qm0 r _).2 ?_),rfl⟩;simp;try omega)
def qby(c:Nat):Nat×Nat:=
 if c<0x80 then(1,c)else if c<0xC0 then(0,0)else if c<0xE0 then(2,c%32)else if c<0xF0 then(3,c%16)else if c<0xF8 then(4,c%8)else(0,0)
theorem qqb(c:Nat)(_:c<256):(qby c).1<=4/\(qby c).2<128:=by
 unfold qby;repeat(first|split|(refine⟨?_,?_⟩<;>dsimp only<;>omega))
theorem q92(c:DY)(w:DU):
  Gv Eg 286 [.int .u8 c.toNat] w λv w'=>v=.tuple #[ii (qby c.toNat).1,.int .i32 (qby c.toNat).2]/\w'=w:=by
 refine ze Tryz.func286 Tryz.ntmps286 ?_
 (repeat'(first|refine zp ?_|refine zC (λ_=>zw ?_) (λ_=>zw ?_)))
 ·exact⟨by rw[qby,Ad Oo];rfl,rfl⟩
 ·exact⟨by rw[qby,Aa Oo,Ad Oo];rfl,rfl⟩
 ·refine Wit.eq (qay 5 rfl ⟨by omega,by omega⟩ ⟨by omega,by omega⟩) (zu ?_);exact⟨by rw[qby,Aa Oo,Aa Oo,Ad Oo];rfl,rfl⟩
 ·refine Wit.eq (qay 4 rfl ⟨by omega,by omega⟩ ⟨by omega,by omega⟩) (zu ?_);exact⟨by rw[qby,Aa Oo,Aa Oo,Aa Oo,Ad Oo];rfl,rfl⟩
 ·refine Wit.eq (qay 3 rfl ⟨by omega,by omega⟩ ⟨by omega,by omega⟩) (zu ?_);exact⟨by rw[qby,Aa Oo,Aa Oo,Aa Oo,Aa Oo,Ad Oo];rfl,rfl⟩
 ·exact⟨by rw[qby,Aa Oo,Aa Oo,Aa Oo,Aa Oo,Aa Oo];rfl,rfl⟩
def qfh(n:Nat):Nat:=if n=2 then 0x80 else if n=3 then 0x800 else if n=4 then 0x10000 else 0
theorem q4o(n:Nat)(h:n<=4)(w:DU):
  Gv Eg 287 [ii n] w λv w'=>v=.int .i32 (qfh n)/\w'=w:=by
 refine ze Tryz.func287 Tryz.ntmps287 ?_;refine zv ?_;refine⟨.int .i32 (qfh n),?_,?_⟩
 ·obtain rfl|rfl|rfl|rfl|rfl:n=0\/n=1\/n=2\/n=3\/n=4:=by omega
  all_goals rfl
 ·(conv=>whnf);exact⟨rfl,rfl⟩
def accR(r:Nat)(l:LB):Nat:=l.foldl (λr c=>r*64+c.toNat%64) r
def cont(c:DY):Bool:=c.toNat/64==2
def decN:LB->Nat×Nat
 | []=>(0,0)
 | b::t=>
  let n:=(qby b.toNat).1
  if n=0\/t.length<n-1 then(0,0)
  else if(t.take (n-1)).all cont then
   let r:=accR (qby b.toNat).2 (t.take (n-1))
   if r<qfh n\/qax r=false then(0,0)else(r,n)
  else(0,0)
theorem qad4(r:Nat)(l:LB):accR r l<(r+1)*64 ^ l.length:=by
 induction l generalizing r with
 | nil=>simp[accR]
 | cons c l H=>
  have U:=H (r*64+c.toNat%64);have V:c.toNat%64<64:=Cu _ Oo;simp only[accR,Cj,AC]at *;refine Bf U ?_;rw[Nat.pow_succ,Cf (64 ^ _) 64,<-Nat.mul_assoc];exact Bx _ Oo
theorem qp2(h:k<l.length):l.take (k+1)=l.take k++[l.getD k 0]:=by
 rw[AX h,Ah,zge h,Cd]
theorem qa7(s:DV)(p:Nat)(h:p<s.size):s.data.toList.drop p=gb s p::s.data.toList.drop (p+1):=by
 have H:p<s.data.toList.length:=by simpa using h
 rw[Br H,gb,Ah,zge H,Cd]
theorem q21(s:DV)(p k:Nat):(s.data.toList.drop p).getD k 0=gb s (p+k):=by
 simp[gb]
theorem qe0(s:DV)(p:Nat):(s.data.toList.drop p).length=s.size-p:=by simp
theorem qaio(m:Nat)(h:m<256):m &&&192=m/64*64:=by
 have:∀m:Fin 256,m.1 &&&192=m.1/64*64:=by decide +kernel
 exact this ⟨m,h⟩
theorem qyl(s:DV)(p:Nat)(hp:p<s.size)(hs:s.size<=140737488355328)(w:DU):
  Gv Eg 216 [.string s,ii p] w λv w'=>v=.tuple #[.int .i32 (decN (s.data.toList.drop p)).1,ii (decN (s.data.toList.drop p)).2]/\w'=w:=by
 obtain⟨t,ht⟩:∃t,t=s.data.toList.drop (p+1):=⟨_,rfl⟩
 obtain⟨n,hn⟩:∃n,n=(qby (gb s p).toNat).1:=⟨_,rfl⟩
 obtain⟨r,hr⟩:∃r,r=(qby (gb s p).toNat).2:=⟨_,rfl⟩
 have H:=q92 (gb s p) w;have hb:=qqb (gb s p).toNat (gb s p).toNat_lt;rw[<-hn,<-hr]at H hb;obtain⟨ad,ae⟩:=hb;have ag:t.length=s.size-(p+1):=by rw[ht,qe0]
 have W:decN (s.data.toList.drop p)=if n=0\/t.length<n-1 then(0,0)else if(t.take (n-1)).all cont then
   (if accR r (t.take (n-1))<qfh n\/qax (accR r (t.take (n-1)))=false then(0,0)else(accR r (t.take (n-1)),n))else(0,0):=by
  rw[qa7 s p hp,<-ht,hn,hr];rfl
 refine ze Tryz.func216 Tryz.ntmps216 ?_;refine zv ?_;refine zcv (H) ?_;rintro v w' ⟨rfl,rfl⟩;conv=>whnf
 (repeat'(first|refine zp ?_|refine zC (λ_=>zw ?_) (λ_=>zw ?_)))
 ·exact⟨by rw[W,Ad Oo];rfl,rfl⟩
 ·exact⟨by rw[W,Ad Oo];rfl,rfl⟩
 ·refine qk (λk:Nat=>[(0,.string s),(1,ii p),(6,ii n),(7,.int .i32 (accR r (t.take (k-1)))),(8,ii k)])
   (λk w1=>1<=k/\k<=n/\(t.take (k-1)).all cont=true/\w1=w') (λk=>n-k) 1 fq ⟨by omega,by omega,rfl,rfl⟩ ?_
  rintro k w1 ah ⟨h1,h2,h3,rfl⟩;have U:=qad4 r (t.take (k-1));have Z:(t.take (k-1)).length=k-1:=by rw[Az];omega
  rw[Z]at U;(conv=>whnf);refine zC (λ_=>zu ?_) (λ_=>zu ?_)
  ·refine IdxV.at_ (p+k) Oo Oo (zw ?_);have hc:(gb s (p+k)).toNat<256:=(gb s (p+k)).toNat_lt;have hg:t.getD (k-1) 0=gb s (p+k):=by rw[ht,q21];congr 1;omega
   have V:t.take k=t.take (k-1)++[gb s (p+k)]:=by
    have:=qp2 (l:=t) (k:=k-1) Oo;rw[hg,show k-1+1=k from by omega]at this;exact this
   have af:accR r (t.take (k-1))<524288:=by
    refine Bf U (AI (B8 (Nat.succ_le_of_lt ae) (AY Oo (show k-1<=2 by omega))) Od)
   refine Wit.eq (y:=(((gb s (p+k)).toNat/64*64:Nat):Int)) (by rw[<-qaio _ hc];exact qw9 (n:=192) ⟨by omega,by omega⟩ ⟨by decide,by decide⟩) (zw ?_);refine zC (λ_=>zw ?_) (λ_=>zw ?_)
   ·refine⟨?_,rfl⟩;rw[W,Aa Oo,Aa ?_]
    ·rfl
    ·rw[DO];apply CX.2;refine⟨gb s (p+k),?_,?_⟩
     ·have:gb s (p+k)∈t.take k:=by rw[V];simp
      exact D7 (i:=k) (by rw[List.take_take,BG Oo];exact this)
     ·simp[cont];omega
   ·refine Wit.shl ⟨by decide,by decide⟩ (m:=64) Od rfl ⟨by omega,by omega⟩ (zw ?_);refine Wit.eq (qay 6 rfl ⟨by omega,by omega⟩ ⟨by omega,by omega⟩) (zu ?_);refine Wit.eq (y:=((accR r (t.take k):Nat):Int)) ?_ ?_
    ·have:=q8g (k:=.i32) (a:=accR r (t.take (k-1))) (b:=(gb s (p+k)).toNat%64) 6 ⟨by omega,by omega⟩ Oo;rw[V]
     simpa[accR]using this
    refine zu ?_;refine⟨k+1,fq,⟨by omega,by omega,?_,rfl⟩,by omega⟩;rw[show k+1-1=k from by omega,V,Dh,h3];simp[cont];omega
  ·obtain rfl:k=n:=by omega
   refine zcv (q4o k ad _) ?_;rintro v w' ⟨rfl,rfl⟩;(conv=>whnf);refine zC (λ_=>zu ?_) (λ_=>zu ?_)
   ·refine⟨?_,rfl⟩;rw[W,Aa Oo,Ad h3,Ad (.inl Oo)];rfl
   ·refine zcv (q07 _ _) ?_;rintro v w' ⟨rfl,rfl⟩;(conv=>whnf);cases aa:qax (accR r (t.take (k-1)))
    ·refine zu ?_;refine⟨?_,rfl⟩;rw[W,Aa Oo,Ad h3,Ad (.inr aa)];rfl
    ·refine zu ?_;refine⟨?_,rfl⟩;rw[W,Aa Oo,Ad h3,Aa (by rw[aa];simp;omega)]
def scal(l:LB):Option Ef:=
 match l with
 | []=>some []
 | b::t=>if _:(decN (b::t)).2=0 then none else(scal ((b::t).drop (decN (b::t)).2)).map ((decN (b::t)).1::·)
termination_by l.length
decreasing_by simp;omega
theorem qi7(l:LB):(decN l).2<=l.length:=by
 unfold decN
 split
 ·simp
 ·rename_i b t
  have:=qqb b.toNat b.toNat_lt;simp only
  split
  ·simp
  ·split
   ·split<;>simp;omega
   ·simp
theorem q8y(l:LB):(decN l).2<=4:=by
 unfold decN
 split
 ·simp
 ·rename_i b t
  have:=qqb b.toNat b.toNat_lt;simp only
  split
  ·simp
  ·split
   ·split<;>simp;omega
   ·simp
theorem qio(h:l≠[])(H:(decN l).2=0):scal l=none:=by
 match l,h with
 | a::t,_=>rw[scal,dif_pos H]
theorem qga(h:l≠[])(H:(decN l).2≠0):scal l=(scal (l.drop (decN l).2)).map ((decN l).1::·):=by
 match l,h with
 | a::t,_=>rw[scal,dif_neg H]
theorem qjb(s:DV)(p:Nat)(h:p<s.size):s.data.toList.drop p≠[]:=by
 rw[qa7 s p h];simp
theorem qrw(s:DV)(W:s.size<=140737488355328)(w:DU):
  Gv Eg 140 [.string s] w λv w'=>(∃i:Int,v=ii i/\i<4611686018427387904/\(scal s.data.toList≠none->i=-1)/\(scal s.data.toList=none->0<=i))/\w'=w:=by
 refine ze Tryz.func140 Tryz.ntmps140 ?_;refine qk (λp:Nat=>[(0,.string s),(3,ii p)]) (λp V=>p<=s.size/\(scal s.data.toList=none↔scal (s.data.toList.drop p)=none)/\V=w) (λp=>s.size-p) 0 fq ⟨by omega,by simp,rfl⟩ ?_;rintro p V Z ⟨h1,H,rfl⟩;(conv=>whnf);refine zC (λ_=>zw ?_) (λ_=>zw ?_)
 ·refine zcv (qyl s p Oo W _) ?_;rintro v w' ⟨rfl,rfl⟩;have U:=qi7 (s.data.toList.drop p);rw[qe0]at U;(conv=>whnf);refine zC (λ_=>zu ?_) (λ_=>zu ?_)
  ·refine⟨⟨p,rfl,by omega,λh=>?_,λ_=>by omega⟩,rfl⟩;exact absurd (H.2 (qio (qjb s p Oo) Oo)) h
  ·refine⟨p+(decN (s.data.toList.drop p)).2,fq,⟨by omega,?_,rfl⟩,by omega⟩;rw[H,qga (qjb s p Oo) Oo,Ar];simp
 ·refine⟨⟨-1,rfl,by omega,λ_=>rfl,λh=>?_⟩,rfl⟩;rw[H,AN Ys]at h;rw[scal]at h;cases h
end Go.Proofs.YtccmcfpmknpccaaGreatDoor
namespace Go.Proofs
open YtccmcfpmknpccaaGreatDoor YtccmcfpmknpccaaGreatDoor.V
open Go.Shelf
def Tryz.lays169_ren:Go.Shelf.Ren:=⟨fun|169=>369|n=>n,fun|70=>470|9=>9|0=>0|72=>472|37=>32|127=>484|3=>3|5=>5|n=>n,fun|n=>n⟩
theorem Tryz.lays169:Go.Proofs.Lays.n169 Eg Tryz.lays169_ren:={
 mixed:=by kernel_rfl
 f169:=Tryz.func369.trans (Ae some Jk)
 t0:=Tryz.underlying0
 a0:=Tryz.isAgg0
 z0:=Tryz.sizeOf0
 v0:=Tryz.zeroValue0
 t3:=Tryz.underlying3
 a3:=Tryz.isAgg3
 z3:=Tryz.sizeOf3
 v3:=Tryz.zeroValue3
 t9:=Tryz.underlying9
 a9:=Tryz.isAgg9
 z9:=Tryz.sizeOf9
 v9:=Tryz.zeroValue9
 t37:=Tryz.underlying32
 a37:=Tryz.isAgg32
 z37:=Tryz.sizeOf32
 v37:=Tryz.zeroValue32
 t70:=Tryz.underlying470
 a70:=Tryz.isAgg470
 z70:=Tryz.sizeOf470
 v70:=Tryz.zeroValue470
 t72:=Tryz.underlying472
 a72:=Tryz.isAgg472
 z72:=Tryz.sizeOf472
 v72:=Tryz.zeroValue472
 t127:=Tryz.underlying484
 a127:=Tryz.isAgg484
 z127:=Tryz.sizeOf484
 v127:=Tryz.zeroValue484 }
theorem Tryz.Builder_Extra_169:Builder.Extra Eg Tryz.lays169_ren:={
 sizeBuilder:=by kernel_rfl
 liesBuilder:=by kernel_rfl
 t5:=Tryz.underlying5
 a5:=Tryz.isAgg5
 z5:=Tryz.sizeOf5
 v5:=Tryz.zeroValue5
 infoByte:=by kernel_rfl
 cellsByte:=by kernel_rfl
 sizeByte:=by kernel_rfl
 neB5:=by decide }
open Go.RowKit in
theorem Tryz.Builder_String_any(B b:Nat)(l:LB)(w:DU)(h:Lib.IsBuilder 472 5 B b (Lib.byteCells l) w)(H:B<=w.heap.size):
  Calls Eg 369 #[pp b] w λe w'=>e=.returned (.string ⟨l.toArray⟩)/\Below B w w':=Any.Builder_String_any Tryz.lays169 Tryz.Builder_Extra_169 B b l w h H
def Tryz.lays165_ren:Go.Shelf.Ren:=⟨fun|165=>366|240=>385|241=>386|276=>392|277=>393|n=>n,fun|70=>470|3=>3|0=>0|4=>4|9=>9|20=>20|72=>472|37=>32|164=>207|5=>5|n=>n,fun|n=>n⟩
theorem Tryz.lays165:Go.Proofs.Lays.n165 Eg Tryz.lays165_ren:={
 mixed:=by kernel_rfl
 f165:=Tryz.func366.trans (Ae some Jk)
 f240:=Tryz.func385.trans (Ae some Jk)
 f241:=Tryz.func386.trans (Ae some Jk)
 f276:=Tryz.func392.trans (Ae some Jk)
 f277:=Tryz.func393.trans (Ae some Jk)
 t0:=Tryz.underlying0
 a0:=Tryz.isAgg0
 z0:=Tryz.sizeOf0
 v0:=Tryz.zeroValue0
 t3:=Tryz.underlying3
 a3:=Tryz.isAgg3
 z3:=Tryz.sizeOf3
 v3:=Tryz.zeroValue3
 t4:=Tryz.underlying4
 a4:=Tryz.isAgg4
 z4:=Tryz.sizeOf4
 v4:=Tryz.zeroValue4
 t9:=Tryz.underlying9
 a9:=Tryz.isAgg9
 z9:=Tryz.sizeOf9
 v9:=Tryz.zeroValue9
 t20:=Tryz.underlying20
 a20:=Tryz.isAgg20
 z20:=Tryz.sizeOf20
 v20:=Tryz.zeroValue20
 t37:=Tryz.underlying32
 a37:=Tryz.isAgg32
 z37:=Tryz.sizeOf32
 v37:=Tryz.zeroValue32
 t70:=Tryz.underlying470
 a70:=Tryz.isAgg470
 z70:=Tryz.sizeOf470
 v70:=Tryz.zeroValue470
 t72:=Tryz.underlying472
 a72:=Tryz.isAgg472
 z72:=Tryz.sizeOf472
 v72:=Tryz.zeroValue472
 t164:=Tryz.underlying207
 a164:=Tryz.isAgg207
 z164:=Tryz.sizeOf207
 v164:=Tryz.zeroValue207 }
theorem Tryz.Builder_Extra_165:Builder.Extra Eg Tryz.lays165_ren:={
 sizeBuilder:=by kernel_rfl
 liesBuilder:=by kernel_rfl
 t5:=Tryz.underlying5
 a5:=Tryz.isAgg5
 z5:=Tryz.sizeOf5
 v5:=Tryz.zeroValue5
 infoByte:=by kernel_rfl
 cellsByte:=by kernel_rfl
 sizeByte:=by kernel_rfl
 neB5:=by decide }
open Go.RowKit in
theorem Tryz.Builder_Grow_fresh(B b n:Nat)(w:DU)(V:B<=b)(H:w.heap[b]?=some (.cells #[.pointer none,.slice none 0 0] 472))(U:B<=w.heap.size)(W:n<=281474976710656):
  Calls Eg 366 #[pp b,ii n] w λe w'=>e=.returned (.tuple #[])/\(Lib.BuilderAt 472 5 B b (pp b) [] w'/\Below B w w'):=Any.Builder_Grow_fresh Tryz.lays165 Tryz.Builder_Extra_165 B b n w V H U W
def Tryz.lays119_ren:Go.Shelf.Ren:=⟨fun|119=>373|n=>n,fun|21=>21|4=>4|n=>n,fun|n=>n⟩
theorem Tryz.lays119:Go.Proofs.Lays.n119 Eg Tryz.lays119_ren:={
 mixed:=by kernel_rfl
 f119:=Tryz.func373.trans (Ae some Jk)
 t4:=Tryz.underlying4
 a4:=Tryz.isAgg4
 z4:=Tryz.sizeOf4
 v4:=Tryz.zeroValue4
 t21:=Tryz.underlying21
 a21:=Tryz.isAgg21
 z21:=Tryz.sizeOf21
 v21:=Tryz.zeroValue21 }
theorem Tryz.utf8_ValidRune(r:Int)(w:DU):
  Calls Eg 373 #[.int .i32 r] w λe w'=>e=.returned (.bool (Lib.validRune r))/\w'=w:=Any.utf8_ValidRune Tryz.lays119 r w
def Tryz.lays213_ren:Go.Shelf.Ren:=⟨fun|213=>125|265=>205|n=>n,fun|9=>9|3=>3|n=>n,fun|n=>n⟩
def Tryz.lays106_ren:Go.Shelf.Ren:=⟨fun|106=>60|213=>125|265=>205|n=>n,fun|9=>9|3=>3|n=>n,fun|n=>n⟩
theorem Tryz.lays106:Go.Proofs.Lays.n106 Eg Tryz.lays106_ren:={
 mixed:=by kernel_rfl
 f106:=Tryz.func60.trans (Ae some Jk)
 f213:=Tryz.func125.trans (Ae some Jk)
 f265:=Tryz.func205.trans (Ae some Jk)
 t3:=Tryz.underlying3
 a3:=Tryz.isAgg3
 z3:=Tryz.sizeOf3
 v3:=Tryz.zeroValue3
 t9:=Tryz.underlying9
 a9:=Tryz.isAgg9
 z9:=Tryz.sizeOf9
 v9:=Tryz.zeroValue9 }
open Go.RowKit in
theorem Tryz.strings_Compare(a b:DV)(w:DU):
  Calls Eg 60 #[.string a,.string b] w λe w'=>e=.returned (ii (Lib.compareBytes a.data.toList b.data.toList))/\w'=w:=Any.strings_Compare Tryz.lays106 a b w
def Tryz.lays137_ren:Go.Shelf.Ren:=⟨fun|137=>372|217=>388|266=>394|n=>n,fun|9=>9|5=>5|3=>3|n=>n,fun|n=>n⟩
theorem Tryz.lays137:Go.Proofs.Lays.n137 Eg Tryz.lays137_ren:={
 mixed:=by kernel_rfl
 f137:=Tryz.func372.trans (Ae some Jk)
 f217:=Tryz.func388.trans (Ae some Jk)
 f266:=Tryz.func394.trans (Ae some Jk)
 t3:=Tryz.underlying3
 a3:=Tryz.isAgg3
 z3:=Tryz.sizeOf3
 v3:=Tryz.zeroValue3
 t5:=Tryz.underlying5
 a5:=Tryz.isAgg5
 z5:=Tryz.sizeOf5
 v5:=Tryz.zeroValue5
 t9:=Tryz.underlying9
 a9:=Tryz.isAgg9
 z9:=Tryz.sizeOf9
 v9:=Tryz.zeroValue9 }
open Go.RowKit in
theorem Tryz.strings_IndexByte(s:DV)(c:Int)(w:DU):
  Calls Eg 372 #[.string s,.int .u8 c] w λe w'=>e=.returned (ii (Lib.indexByte s.data.toList c.toNat.toUInt8))/\w'=w:=Any.strings_IndexByte Tryz.lays137 s c w
def Tryz.lays129_ren:Go.Shelf.Ren:=⟨fun|129=>259|n=>n,fun|53=>164|3=>3|4=>4|46=>272|5=>5|9=>9|n=>n,fun|n=>n⟩
theorem Tryz.lays129:Go.Proofs.Lays.n129 Eg Tryz.lays129_ren:={
 mixed:=by kernel_rfl
 f129:=Tryz.func259.trans (Ae some Jk)
 t3:=Tryz.underlying3
 a3:=Tryz.isAgg3
 z3:=Tryz.sizeOf3
 v3:=Tryz.zeroValue3
 t4:=Tryz.underlying4
 a4:=Tryz.isAgg4
 z4:=Tryz.sizeOf4
 v4:=Tryz.zeroValue4
 t5:=Tryz.underlying5
 a5:=Tryz.isAgg5
 z5:=Tryz.sizeOf5
 v5:=Tryz.zeroValue5
 t9:=Tryz.underlying9
 a9:=Tryz.isAgg9
 z9:=Tryz.sizeOf9
 v9:=Tryz.zeroValue9
 t46:=Tryz.underlying272
 a46:=Tryz.isAgg272
 z46:=Tryz.sizeOf272
 v46:=Tryz.zeroValue272
 t53:=Tryz.underlying164
 a53:=Tryz.isAgg164
 z53:=Tryz.sizeOf164
 v53:=Tryz.zeroValue164 }
theorem Tryz.bits_Len64(x:Int)(w:DU)(H:0<=x)(U:x<=18446744073709551615):
  Calls Eg 259 #[.int .u64 x] w λe w'=>e=.returned (ii (Lib.bitLen x.toNat))/\w'=w:=Any.bits_Len64 Tryz.lays129 x w H U
def Tryz.lays219_ren:Go.Shelf.Ren:=⟨fun|219=>378|217=>388|225=>375|224=>374|267=>389|266=>394|314=>395|n=>n,fun|9=>9|3=>3|4=>4|5=>5|46=>272|146=>491|51=>179|n=>n,fun|1=>1|n=>n⟩
def Tryz.lays143_ren:Go.Shelf.Ren:=⟨fun|143=>341|219=>378|217=>388|225=>375|224=>374|267=>389|266=>394|314=>395|n=>n,fun|9=>9|3=>3|4=>4|5=>5|46=>272|146=>491|51=>179|n=>n,fun|1=>1|n=>n⟩
theorem Tryz.lays143:Go.Proofs.Lays.n143 Eg Tryz.lays143_ren:={
 mixed:=by kernel_rfl
 f143:=Tryz.func341.trans (Ae some Jk)
 f217:=Tryz.func388.trans (Ae some Jk)
 f219:=Tryz.func378.trans (Ae some Jk)
 f224:=Tryz.func374.trans (Ae some Jk)
 f225:=Tryz.func375.trans (Ae some Jk)
 f266:=Tryz.func394.trans (Ae some Jk)
 f267:=Tryz.func389.trans (Ae some Jk)
 f314:=Tryz.func395.trans (Ae some Jk)
 t3:=Tryz.underlying3
 a3:=Tryz.isAgg3
 z3:=Tryz.sizeOf3
 v3:=Tryz.zeroValue3
 t4:=Tryz.underlying4
 a4:=Tryz.isAgg4
 z4:=Tryz.sizeOf4
 v4:=Tryz.zeroValue4
 t5:=Tryz.underlying5
 a5:=Tryz.isAgg5
 z5:=Tryz.sizeOf5
 v5:=Tryz.zeroValue5
 t9:=Tryz.underlying9
 a9:=Tryz.isAgg9
 z9:=Tryz.sizeOf9
 v9:=Tryz.zeroValue9
 t46:=Tryz.underlying272
 a46:=Tryz.isAgg272
 z46:=Tryz.sizeOf272
 v46:=Tryz.zeroValue272
 t51:=Tryz.underlying179
 a51:=Tryz.isAgg179
 z51:=Tryz.sizeOf179
 v51:=Tryz.zeroValue179
 t146:=Tryz.underlying491
 a146:=Tryz.isAgg491
 z146:=Tryz.sizeOf491
 v146:=Tryz.zeroValue491
 g1:=by kernel_rfl }
open Go.RowKit Go.Lib in
theorem Tryz.strings_Index(s sub:DV)(m:Int)(w:DU)(H:s.size<4294967281)(U:w.cell? ⟨1,0,none⟩=some (ii m)):
  Calls Eg 341 #[.string s,.string sub] w λe w'=>e=.returned (ii (Lib.index s.data.toList sub.data.toList))/\w'=w:=Any.strings_Index Tryz.lays143 s sub m w H U
def Tryz.lays145_ren:Go.Shelf.Ren:=⟨fun|145=>344|220=>379|219=>378|217=>388|225=>375|224=>374|267=>389|266=>394|314=>395|n=>n,fun|9=>9|4=>4|59=>388|3=>3|5=>5|46=>272|146=>491|51=>179|n=>n,fun|1=>1|n=>n⟩
theorem Tryz.lays145:Go.Proofs.Lays.n145 Eg Tryz.lays145_ren:={
 mixed:=by kernel_rfl
 f145:=Tryz.func344.trans (Ae some Jk)
 f217:=Tryz.func388.trans (Ae some Jk)
 f219:=Tryz.func378.trans (Ae some Jk)
 f220:=Tryz.func379.trans (Ae some Jk)
 f224:=Tryz.func374.trans (Ae some Jk)
 f225:=Tryz.func375.trans (Ae some Jk)
 f266:=Tryz.func394.trans (Ae some Jk)
 f267:=Tryz.func389.trans (Ae some Jk)
 f314:=Tryz.func395.trans (Ae some Jk)
 t3:=Tryz.underlying3
 a3:=Tryz.isAgg3
 z3:=Tryz.sizeOf3
 v3:=Tryz.zeroValue3
 t4:=Tryz.underlying4
 a4:=Tryz.isAgg4
 z4:=Tryz.sizeOf4
 v4:=Tryz.zeroValue4
 t5:=Tryz.underlying5
 a5:=Tryz.isAgg5
 z5:=Tryz.sizeOf5
 v5:=Tryz.zeroValue5
 t9:=Tryz.underlying9
 a9:=Tryz.isAgg9
 z9:=Tryz.sizeOf9
 v9:=Tryz.zeroValue9
 t46:=Tryz.underlying272
 a46:=Tryz.isAgg272
 z46:=Tryz.sizeOf272
 v46:=Tryz.zeroValue272
 t51:=Tryz.underlying179
 a51:=Tryz.isAgg179
 z51:=Tryz.sizeOf179
 v51:=Tryz.zeroValue179
 t59:=Tryz.underlying388
 a59:=Tryz.isAgg388
 z59:=Tryz.sizeOf388
 v59:=Tryz.zeroValue388
 t146:=Tryz.underlying491
 a146:=Tryz.isAgg491
 z146:=Tryz.sizeOf491
 v146:=Tryz.zeroValue491
 g1:=by kernel_rfl }
open Go.RowKit Go.Lib in
theorem Tryz.strings_Cut(s H:DV)(m:Int)(w:DU)(U:s.size<4294967281)(V:w.cell? ⟨1,0,none⟩=some (ii m)):
  Calls Eg 344 #[.string s,.string H] w λe w'=>e=.returned (.tuple #[.string ⟨(Lib.cut s.data.toList H.data.toList).1.toArray⟩,.string ⟨(Lib.cut s.data.toList H.data.toList).2.1.toArray⟩,.bool (Lib.cut s.data.toList H.data.toList).2.2])/\∃n,w'=w.drewN n:=Any.strings_Cut Tryz.lays145 s H m w U V
def Tryz.lays138_ren:Go.Shelf.Ren:=⟨fun|138=>340|195=>376|218=>377|143=>341|219=>378|217=>388|225=>375|224=>374|267=>389|266=>394|314=>395|n=>n,fun|9=>9|3=>3|4=>4|5=>5|0=>0|46=>272|146=>491|51=>179|n=>n,fun|1=>1|n=>n⟩
theorem Tryz.lays138:Go.Proofs.Lays.n138 Eg Tryz.lays138_ren:={
 mixed:=by kernel_rfl
 f138:=Tryz.func340.trans (Ae some Jk)
 f143:=Tryz.func341.trans (Ae some Jk)
 f195:=Tryz.func376.trans (Ae some Jk)
 f217:=Tryz.func388.trans (Ae some Jk)
 f218:=Tryz.func377.trans (Ae some Jk)
 f219:=Tryz.func378.trans (Ae some Jk)
 f224:=Tryz.func374.trans (Ae some Jk)
 f225:=Tryz.func375.trans (Ae some Jk)
 f266:=Tryz.func394.trans (Ae some Jk)
 f267:=Tryz.func389.trans (Ae some Jk)
 f314:=Tryz.func395.trans (Ae some Jk)
 t0:=Tryz.underlying0
 a0:=Tryz.isAgg0
 z0:=Tryz.sizeOf0
 v0:=Tryz.zeroValue0
 t3:=Tryz.underlying3
 a3:=Tryz.isAgg3
 z3:=Tryz.sizeOf3
 v3:=Tryz.zeroValue3
 t4:=Tryz.underlying4
 a4:=Tryz.isAgg4
 z4:=Tryz.sizeOf4
 v4:=Tryz.zeroValue4
 t5:=Tryz.underlying5
 a5:=Tryz.isAgg5
 z5:=Tryz.sizeOf5
 v5:=Tryz.zeroValue5
 t9:=Tryz.underlying9
 a9:=Tryz.isAgg9
 z9:=Tryz.sizeOf9
 v9:=Tryz.zeroValue9
 t46:=Tryz.underlying272
 a46:=Tryz.isAgg272
 z46:=Tryz.sizeOf272
 v46:=Tryz.zeroValue272
 t51:=Tryz.underlying179
 a51:=Tryz.isAgg179
 z51:=Tryz.sizeOf179
 v51:=Tryz.zeroValue179
 t146:=Tryz.underlying491
 a146:=Tryz.isAgg491
 z146:=Tryz.sizeOf491
 v146:=Tryz.zeroValue491
 g1:=by kernel_rfl }
open Go.RowKit Go.Lib in
theorem Tryz.strings_Count_any(s H:DV)(m:Int)(w:DU)(U:s.size<4294967281)(V:w.cell? ⟨1,0,none⟩=some (ii m))(W:1<=H.size):
  Calls Eg 340 #[.string s,.string H] w λe w'=>e=.returned (ii (Lib.countB s H))/\w'=w:=Any.strings_Count_any Tryz.lays138 s H m w U V W
def Tryz.lays221_ren:Go.Shelf.Ren:=⟨fun|221=>289|268=>339|138=>340|143=>341|195=>376|197=>368|218=>377|219=>378|260=>387|217=>388|225=>375|224=>374|267=>389|266=>394|314=>395|n=>n,fun|9=>9|3=>3|31=>159|4=>4|0=>0|105=>353|21=>21|5=>5|46=>272|119=>487|139=>490|138=>489|146=>491|51=>179|n=>n,fun|1=>1|3=>5|4=>6|n=>n⟩
def Tryz.lays146_ren:Go.Shelf.Ren:=⟨fun|146=>217|221=>289|268=>339|138=>340|143=>341|195=>376|197=>368|218=>377|219=>378|260=>387|217=>388|225=>375|224=>374|267=>389|266=>394|314=>395|n=>n,fun|9=>9|31=>159|3=>3|4=>4|0=>0|105=>353|21=>21|5=>5|46=>272|119=>487|139=>490|138=>489|146=>491|51=>179|n=>n,fun|1=>1|3=>5|4=>6|n=>n⟩
theorem Tryz.lays146:Go.Proofs.Lays.n146 Eg Tryz.lays146_ren:={
 mixed:=by kernel_rfl
 f138:=Tryz.func340.trans (Ae some Jk)
 f143:=Tryz.func341.trans (Ae some Jk)
 f146:=Tryz.func217.trans (Ae some Jk)
 f195:=Tryz.func376.trans (Ae some Jk)
 f197:=Tryz.func368.trans (Ae some Jk)
 f217:=Tryz.func388.trans (Ae some Jk)
 f218:=Tryz.func377.trans (Ae some Jk)
 f219:=Tryz.func378.trans (Ae some Jk)
 f221:=Tryz.func289.trans (Ae some Jk)
 f224:=Tryz.func374.trans (Ae some Jk)
 f225:=Tryz.func375.trans (Ae some Jk)
 f260:=Tryz.func387.trans (Ae some Jk)
 f266:=Tryz.func394.trans (Ae some Jk)
 f267:=Tryz.func389.trans (Ae some Jk)
 f268:=Tryz.func339.trans (Ae some Jk)
 f314:=Tryz.func395.trans (Ae some Jk)
 t0:=Tryz.underlying0
 a0:=Tryz.isAgg0
 z0:=Tryz.sizeOf0
 v0:=Tryz.zeroValue0
 t3:=Tryz.underlying3
 a3:=Tryz.isAgg3
 z3:=Tryz.sizeOf3
 v3:=Tryz.zeroValue3
 t4:=Tryz.underlying4
 a4:=Tryz.isAgg4
 z4:=Tryz.sizeOf4
 v4:=Tryz.zeroValue4
 t5:=Tryz.underlying5
 a5:=Tryz.isAgg5
 z5:=Tryz.sizeOf5
 v5:=Tryz.zeroValue5
 t9:=Tryz.underlying9
 a9:=Tryz.isAgg9
 z9:=Tryz.sizeOf9
 v9:=Tryz.zeroValue9
 t21:=Tryz.underlying21
 a21:=Tryz.isAgg21
 z21:=Tryz.sizeOf21
 v21:=Tryz.zeroValue21
 t31:=Tryz.underlying159
 a31:=Tryz.isAgg159
 z31:=Tryz.sizeOf159
 v31:=Tryz.zeroValue159
 t46:=Tryz.underlying272
 a46:=Tryz.isAgg272
 z46:=Tryz.sizeOf272
 v46:=Tryz.zeroValue272
 t51:=Tryz.underlying179
 a51:=Tryz.isAgg179
 z51:=Tryz.sizeOf179
 v51:=Tryz.zeroValue179
 t105:=Tryz.underlying353
 a105:=Tryz.isAgg353
 z105:=Tryz.sizeOf353
 v105:=Tryz.zeroValue353
 t119:=Tryz.underlying487
 a119:=Tryz.isAgg487
 z119:=Tryz.sizeOf487
 t138:=Tryz.underlying489
 a138:=Tryz.isAgg489
 z138:=Tryz.sizeOf489
 v138:=Tryz.zeroValue489
 t139:=Tryz.underlying490
 a139:=Tryz.isAgg490
 z139:=Tryz.sizeOf490
 v139:=Tryz.zeroValue490
 t146:=Tryz.underlying491
 a146:=Tryz.isAgg491
 z146:=Tryz.sizeOf491
 v146:=Tryz.zeroValue491
 g1:=by kernel_rfl
 g3:=by kernel_rfl
 g4:=by kernel_rfl }
open Go.RowKit Go.Lib in
theorem Tryz.strings_Split(s H:DV)(m:Int)(w:DU)(U:s.size<4294967281)(V:w.cell? ⟨1,0,none⟩=some (ii m))(W:1<=H.size):
  Calls Eg 217 #[.string s,.string H] w λe w'=>
   e=.returned (.slice (some ⟨w.heap.size,0,none⟩) (Lib.countB s H+1) (Lib.countB s H+1))/\w'=w.alloc (.cells ((Lib.splitB H 0 (Lib.countB s H) s).map Value.string).toArray 9):=Any.strings_Split Tryz.lays146 Jk s H m w U V W
def Tryz.lays151_ren:Go.Shelf.Ren:=⟨fun|151=>282|152=>337|137=>372|119=>373|224=>374|225=>375|217=>388|266=>394|n=>n,fun|9=>9|21=>21|4=>4|3=>3|5=>5|0=>0|46=>272|n=>n,fun|n=>n⟩
theorem Tryz.lays151:Go.Proofs.Lays.n151 Eg Tryz.lays151_ren:={
 mixed:=by kernel_rfl
 f119:=Tryz.func373.trans (Ae some Jk)
 f137:=Tryz.func372.trans (Ae some Jk)
 f151:=Tryz.func282.trans (Ae some Jk)
 f152:=Tryz.func337.trans (Ae some Jk)
 f217:=Tryz.func388.trans (Ae some Jk)
 f224:=Tryz.func374.trans (Ae some Jk)
 f225:=Tryz.func375.trans (Ae some Jk)
 f266:=Tryz.func394.trans (Ae some Jk)
 t0:=Tryz.underlying0
 a0:=Tryz.isAgg0
 z0:=Tryz.sizeOf0
 v0:=Tryz.zeroValue0
 t3:=Tryz.underlying3
 a3:=Tryz.isAgg3
 z3:=Tryz.sizeOf3
 v3:=Tryz.zeroValue3
 t4:=Tryz.underlying4
 a4:=Tryz.isAgg4
 z4:=Tryz.sizeOf4
 v4:=Tryz.zeroValue4
 t5:=Tryz.underlying5
 a5:=Tryz.isAgg5
 z5:=Tryz.sizeOf5
 v5:=Tryz.zeroValue5
 t9:=Tryz.underlying9
 a9:=Tryz.isAgg9
 z9:=Tryz.sizeOf9
 v9:=Tryz.zeroValue9
 t21:=Tryz.underlying21
 a21:=Tryz.isAgg21
 z21:=Tryz.sizeOf21
 v21:=Tryz.zeroValue21
 t46:=Tryz.underlying272
 a46:=Tryz.isAgg272
 z46:=Tryz.sizeOf272
 v46:=Tryz.zeroValue272 }
open Go.RowKit Go.Lib in
theorem Tryz.strings_ContainsRune_ascii(s:DV)(r:Int)(w:DU)(H:0<=r)(U:r<128):
  Calls Eg 282 #[.string s,.int .i32 r] w λe w'=>e=.returned (.bool (decide (0<=Lib.indexByte s.data.toList r.toNat.toUInt8)))/\w'=w:=Any.strings_ContainsRune_ascii Tryz.lays151 s r w H U
def Tryz.lays110_ren:Go.Shelf.Ren:=⟨fun|110=>296|109=>343|n=>n,fun|31=>159|9=>9|4=>4|3=>3|0=>0|n=>n,fun|n=>n⟩
theorem Tryz.lays110:Go.Proofs.Lays.n110 Eg Tryz.lays110_ren:={
 mixed:=by kernel_rfl
 f109:=Tryz.func343.trans (Ae some Jk)
 f110:=Tryz.func296.trans (Ae some Jk)
 t0:=Tryz.underlying0
 a0:=Tryz.isAgg0
 z0:=Tryz.sizeOf0
 v0:=Tryz.zeroValue0
 t3:=Tryz.underlying3
 a3:=Tryz.isAgg3
 z3:=Tryz.sizeOf3
 v3:=Tryz.zeroValue3
 t4:=Tryz.underlying4
 a4:=Tryz.isAgg4
 z4:=Tryz.sizeOf4
 v4:=Tryz.zeroValue4
 t9:=Tryz.underlying9
 a9:=Tryz.isAgg9
 z9:=Tryz.sizeOf9
 v9:=Tryz.zeroValue9
 t31:=Tryz.underlying159
 a31:=Tryz.isAgg159
 z31:=Tryz.sizeOf159
 v31:=Tryz.zeroValue159 }
open Go.Lib in
theorem Tryz.slices_Contains_string(b off n c:Nat)(H:List DV)(x:DV)(w:DU)(V:n<=H.length)(U:n<=9223372036854775807)(W:∀j,j<H.length->w.cell? ⟨b,off+j,none⟩=some (.string (H.getD j ByteArray.empty))):
  Calls Eg 296 #[.slice (some ⟨b,off,none⟩) n c,.string x] w λe w'=>e=.returned (.bool (Lib.containsS (H.take n) x))/\w'=w:=Any.slices_Contains_string Tryz.lays110 b off n c H x w V U W
open Go.Lib in
theorem Tryz.slices_Contains_string_empty(a:oA)(c:Nat)(x:DV)(w:DU):
  Calls Eg 296 #[.slice a 0 c,.string x] w λe w'=>e=.returned (.bool false)/\w'=w:=Any.slices_Contains_string_empty Tryz.lays110 a c x w
end Go.Proofs
