/- Lemmas and contracts of functions on the way to the law's card (part 2 of 16). -/
import Derived.Test.YtccmcfpmknpccaaGreatDoorST1
import Derived.Orders
import Derived.Shelf.Strings.Builder1
import Derived.Shelf.Strings.Builder2
import Derived.Shelf.Small.Utf8
import Derived.Shelf.Small.Bits
import Derived.Shelf.Small.Strs
import Derived.Shelf.Strings.BuilderF
import Derived.Shelf.Strings.BuilderK
import Derived.Shelf.Strconv.Itoa0
import Derived.Shelf.Strings.Search1
import Derived.Shelf.Strings.Search2
import Derived.Shelf.Strings.Search3
import Derived.Shelf.Strings.Cut
import Derived.Shelf.Strings.Count
import Derived.Shelf.LaysM
import Derived.Shelf.Strings.Shaped
import Derived.Shelf.Strings.Split
import Derived.Shelf.Strings.Runes
import Derived.Shelf.Unicode.DecodeSlow
import Derived.Shelf.Unicode.DecodeAny
import Derived.Shelf.Slices.Turned
import Derived.Ground.Names2Prog
import Derived.Shelf.Slices.SearchI
import Derived.Test.YtccmcfpmknpccaaGreatDoorProg
namespace Go.Proofs.YtccmcfpmknpccaaGreatDoor
open Go.RowKit
variable {b base i id j k m off:Nat} {ops:Array Oper} {o oj:Oper} {w w' w0:Dd} {K R:Dj} {Q':Exit->Act->Dl} {listed:Array Bool} {E:Nat->Option Di} {pr:Nat->Prop} {vals ρ:Dk} {I:(Nat->Bool)->Dk->Dl} {P:Df} {x:Di} {p q:Prop} {L:Dm} {cs cur:Dq} {fr:Nat×Nat} {f:FuncId} {args vs:Dn} {l:LB}
namespace V
def q68(e:Edge):Bool:=
 match e.ground with
 | .textOnly _ | .gcOnly _=>false
 | _=>true
theorem qdd(e:Edge):Region.binds .any e=q68 e:=by
 rfl
def qod:List Edge->Do
 | []=>[]
 | e::l=>bif q68 e then e.on::qod l else qod l
def qaw(o:Oper):Do:=qod o.after.toList
theorem qb3{l:List Edge}:k∈qod l↔∃e∈l,q68 e=true/\e.on=k:=by
 induction l<;>grind [qod]
theorem qca(ρ:Dk)(d:Nat)(v:Di):upd ρ d v d=v:=by simp[upd]
theorem qau(ρ:Dk)(d t:Nat)(v:Di)(h:t≠d):upd ρ d v t=ρ t:=by
 grind [Nat.eq_of_beq_eq_true,upd]
def qco(P:Df)(ops:List Oper)(o:Oper)(ρ:Dk)(w:Dd)(K:Dj):Prop:=
 match o.guard with
 | none=>opV P o ρ w K
 | some (j,H)=>
  match getL ops j with
  | none=>K undef w
  | some oj=>match oj.dst with
   | none=>K undef w
   | some d=>
    match ρ d with
    | .bool b=>Tst b
      (match H with
       | true=>opV P o ρ w K
       | false=>K undef w)
      (match H with
       | true=>K undef w
       | false=>opV P o ρ w K)
    | _=>K undef w
structure StepD(A:Dj->Prop)(K:Option Di->Dj->Prop):Prop where
 h:(∃v,A (λu _=>u=v)/\K (some v) (λu _=>u=v))\/(∃φ:Di->Dd->Prop,(∀v w w',φ v w->Ext w w'->φ v w')/\A φ/\K none φ)
theorem StepD.still{A:Dj->Prop}{K:Option Di->Dj->Prop}(v:Di)(h:A (λu _=>u=v))(H:K (some v) (λu _=>u=v)):StepD A K:=⟨(by grind)⟩
theorem StepD.of{A:Dj->Prop}{K:Option Di->Dj->Prop}(H:Dj)(O:∀v w w',H v w->Ext w w'->H v w')(h:A H)(U:K none H):StepD A K:=⟨(by grind)⟩
structure StepG(A:Option Di->Prop)(K:Option Di->Prop):Prop where
 h:∃v,A v/\K v
theorem StepG.of{A K:Option Di->Prop}(v:Di)(h:A (some v))(H:K (some v)):StepG A K:=⟨some v,h,H⟩
theorem StepG.any{A K:Option Di->Prop}(h:A none)(H:K none):StepG A K:=⟨none,h,H⟩
structure StepI(A:Di->Prop)(K:Di->Prop):Prop where
 h:∃v,A v/\K v
theorem StepI.of{A K:Di->Prop}(v:Di)(h:A v)(H:K v):StepI A K:=⟨v,h,H⟩
def updO(ρ:Dk):Option Tmp->Option Di->Nat->Di
 | some d,some v=>upd ρ d v
 | _,_=>ρ
abbrev EL(α:Type):=List (Nat×Nat×α)
def qfa{α:Type}:EL α->Nat->Option (Nat×α)
 | [],_=>none
 | (i,x)::es,k=>bif Nat.beq i k then some x else qfa es k
def allA(es:EL Dj):Do->Dk->Dd->(Dk->Prop)->Prop
 | [],ρ,_,K=>K ρ
 | k::H,ρ,w,K=>
  match qfa es k with
  | some (d,O)=>∀v,O v w->allA es H (upd ρ d v) w K
  | none=>allA es H ρ w K
def idxs{α:Type}:EL α->Do
 | []=>[]
 | (i,_)::es=>i::idxs es
def qj2{α:Type}(k:Nat)(x:α)(es:EL α):Option Tmp->Option Di->EL α
 | some d,none=>(k,d,x)::es
 | _,_=>es
def regD(P:Df)(ops:List Oper)(w0:Dd)(Q:Dk->Dl):List Oper->Nat->EL Dj->Dk->Prop
 | [],_,es,ρ=>∀w,Ext w0 w->allA es (idxs es) ρ w λH=>Q H w
 | o::l,k,es,ρ=>StepD
   (λO=>∀w,Ext w0 w->allA es (qaw o) ρ w λH=>qco P ops o H w λv w'=>Ext w w'/\O v w')
   (λv O=>regD P ops w0 Q l (k+1) (qj2 k O es o.dst v) (updO ρ o.dst v))
def setS(S:Nat->Bool)(k:Nat):Nat->Bool:=λj=>bif Nat.beq j k then true else S j
def isG:Option Di->Di->Prop
 | some c,x=>x=c
 | none,_=>True
def frG:EL Unit->Dk->Dk->Dk
 | [],_,ρ=>ρ
 | (k,d,_)::es,vals,ρ=>frG es vals (upd ρ d (vals k))
def regG(P:Df)(ops:List Oper)(I:(Nat->Bool)->Dk->Dl)(Q:Dk->Dl):List Oper->Nat->EL Unit->Dk->Prop
 | [],_,es,ρ=>∀vals w,I (λ_=>true) vals w->Q (frG es vals ρ) w
 | o::l,k,es,ρ=>StepG (λv=>∀S vals w,S k=false->(∀j∈qaw o,S j=true)->I S vals w->qco P ops o (frG es vals ρ) w λH w'=>isG v H/\I (setS S k) (upd vals k H) w')
   (λv=>regG P ops I Q l (k+1) (qj2 k () es o.dst v) (updO ρ o.dst v))
def regI(P:Df)(ops:List Oper)(I:(Nat->Bool)->Dl)(Q:Dk->Dl):List Oper->Nat->Dk->Prop
 | [],_,ρ=>∀w,I (λ_=>true) w->Q ρ w
 | o::l,k,ρ=>StepI (λv=>∀S w,S k=false->(∀j∈qaw o,S j=true)->I S w->qco P ops o ρ w λH w'=>H=v/\I (setS S k) w')
   (λv=>regI P ops I Q l (k+1) (updO ρ o.dst (some v)))
def shB(n:Nat)(ops:Array Oper)(j k:Nat)(o ok:Oper):Bool:=
 (qaw o).all (λi=>decide (i<j))&&(match o.dst with|some d=>decide (d<n)|none=>true)&&match ok.dst with
  | some t=>(!(o.looksAt ops).contains t||((qaw o).contains k||(qaw ok).contains j))&&(k==j||o.dst != some t)
  | none=>true
def qhy(n:Nat)(ops:Array Oper):Bool:=
 Region.noSelect ops&&(List.range ops.size).all λj=>(List.range ops.size).all λk=>match ops[j]?,ops[k]? with
  | some o,some ok=>shB n ops j k o ok
  | _,_=>true
structure ShapeW(n:Nat)(ops:Array Oper):Prop where
 sel:Region.noSelect ops=true
 lt:∀(j:Nat) (o:Oper),ops[j]?=some o->∀k∈qaw o,k<j
 dn:∀(j:Nat) (o:Oper),ops[j]?=some o->∀d,o.dst=some d->d<n
 look:∀(j:Nat) (o:Oper) (k:Nat) (ok:Oper) (t:Nat),ops[j]?=some o->ops[k]?=some ok->ok.dst=some t->t∈o.looksAt ops->k∈qaw o\/j∈qaw ok
 uniq:∀(j:Nat) (o:Oper) (k:Nat) (ok:Oper) (t:Nat),ops[j]?=some o->ops[k]?=some ok->ok.dst=some t->o.dst=some t->k=j
theorem qou{n:Nat}(h:qhy n ops=true):ShapeW n ops:=by
 obtain⟨U,W⟩:=Bool.and_eq_true_iff.1 h;have Z:∀{j k:Nat} {o ok:Oper},ops[j]?=some o->ops[k]?=some ok->shB n ops j k o ok=true:=λ{j k o ok} H O=>by
  have:=BU.1 (BU.1 W j (B7.2 (BO.1 H).1)) k (by grind)
  simp_all
 refine⟨U,λj o H k O=>?_,λj o H d hd=>?_,λj o k ok t H O ht hl=>?_,λj o k ok t H O ht ho=>?_⟩
 all_goals grind [shB]
section
variable {P:Df} {n:Nat} {ops:Array Oper} {ρ:Dk}
theorem q8u{H O:Dk}(U:∀cs b,o.op≠.select cs b)(h:∀t∈o.looksAt ops,H t=O t):execOp (ev H) o=execOp (ev O) o:=by
 refine execOp_congr o U λx W=>?_;cases x with
 | tmp t=>exact h t (Am _ (CS.2 ⟨.tmp t,by simpa using W,rfl⟩))
 | const v=>rfl
 | global g=>rfl
 | func f=>rfl
theorem ql6{d:Nat}{H:Bool}(O:o.guard=some (j,H))(U:ops[j]?=some oj)(W:oj.dst=some d):d∈o.looksAt ops:=by
 refine Aa _ ?_
 simp_all
theorem qx5{H O:Dk}{a:Act}{K2:Act->Dl}(hi:ops[i]?=some o)(hS:ShapeW n ops)(ha:St n O a)(U:∀t∈o.looksAt ops,H t=O t)(h:qco P ops.toList o H w K)(hk:∀v w',K v w'->K2 (a.put o.dst v) w'):wpOp P ops Q' i K2 a w:=by
 have aa:=Region.noSelect_spec hS.sel i o;have ac:opV P o H w K->Region.wanted o (yielded ops a.tmps)=true->wpOp P ops Q' i K2 a w:=λh hw=>by
  unfold wpOp;rw[hi];simp only[hw,if_true];have W:=qzo h;rw[q8u (ops:=ops) (by grind) U]at W;exact .inl (OpOk.wp ha.eval W hk)
 have skip:K undef w->Region.wanted o (yielded ops a.tmps)=false->wpOp P ops Q' i K2 a w:=(by grind [wpOp])
 unfold qco at h
 split at h
 ·grind [Region.wanted]
 ·rename_i j ab hg
  split at h
  ·grind [qav,Region.wanted,yielded]
  ·rename_i oj hj
   rw[qav]at hj;have Z:ops[j]?=some oj:=by simpa using hj
   split at h
   ·grind [Region.wanted,yielded]
   ·rename_i d hd
    have hy:=ha.yield (by rw[qav];exact hj) hd (hS.dn j oj Z d hd);rw[Array.toArray_toList]at hy;rw[U d (ql6 hg Z hd)]at h
    split at h
    ·rename_i b hb
     rw[hb]at hy;cases b
     ·have h:=h.f rfl
      grind [Region.wanted]
     ·have h:=h.t rfl
      grind [Region.wanted]
    grind [Region.wanted]
theorem qdz(m j:Nat):(Array.replicate m false).getD j false=false:=by
 rcases AM j m with h|h<;>simp[h]
theorem countP_set(listed:Array Bool)(i:Nat)(O:listed.getD i true=false):(listed.setIfInBounds i true).toList.count false+1=listed.toList.count false:=by
 have H:i<listed.toList.length:=by
  grind
 have U:listed.toList[i]=false:=by
  have W:i<listed.size:=by omega
  simp_all
 grind
theorem qoh{H:Region.Mode}(h:∀k,k<ops.size->listed.getD k true=true):Region.ready H ops listed=[]:=by
 rw[CL]
 grind [mem_ready]
theorem qvi(U:ShapeW n ops)(W:listed.size=ops.size)(hr:Region.ready .any ops listed=[])(k:Nat)(Z:k<ops.size):listed.getD k true=true:=by
 induction k using Nat.strongRecOn with
 | _ k ih=>
  cases hv:listed.getD k true with
  | true=>rfl
  | false=>
   have H:k∈Region.ready .any ops listed:=mem_ready.2 ⟨hv,ops[k],Js,λe he O=>by
    rw[qdd]at O;have h1:=U.lt k _ (BT Z) _ (qb3.2 ⟨e,by simpa using he,O,rfl⟩)
    grind⟩
   simp_all
theorem qmp:(λj=>(listed.setIfInBounds i true).getD j true)=setS (λj=>listed.getD j true) i:=by
 funext j
 unfold setS
 by_cases H:j=i
 ·simp_all
 ·have:Nat.beq j i=false:=(by grind [Nat.eq_of_beq_eq_true])
  rw[this,getD_set_ne true Oo];rfl
theorem qc9{S:Nat->Bool}(h:setS S i k=true):k=i\/(k≠i/\S k=true):=by
 grind [Nat.eq_of_beq_eq_true,setS]
def frE:List (Nat×Nat×Option Di)->Dk->Dk->Dk
 | [],_,ρ=>ρ
 | (k,d,v)::es,vals,ρ=>frE es vals (upd ρ d (v.getD (vals k)))
theorem qsj{vals:Dk}{t:Nat}{x:Di}:∀(es:List (Nat×Nat×Option Di)) (ρ:Dk),(∀k v,(k,t,v)∈es->v.getD (vals k)=x)->(ρ t=x\/∃k v,(k,t,v)∈es)->frE es vals ρ t=x
 | [],ρ,_,h=>h.elim id Js
 | (k,d,v)::es,ρ,H,h=>by
  refine qsj es _ (by grind) ?_
  grind [qca,qau]
theorem qbi{vals:Dk}:∀(a b:List (Nat×Nat×Option Di)) (ρ:Dk),frE (a++b) vals ρ=frE b vals (frE a vals ρ)
 | [],_,_=>rfl
 | _::a,b,_=>qbi a b _
structure FrI(ops:Array Oper)(ρ:Dk)(E:Nat->Option Di)(S:Nat->Bool)(vals ρa:Dk):Prop where
 at_:∀k o d,ops[k]?=some o->o.dst=some d->S k=true->ρa d=vals k
 miss:∀t,(∀k o,ops[k]?=some o->S k=true->o.dst≠some t)->ρa t=ρ t
 still:∀k o c,ops[k]?=some o->E k=some c->S k=true->vals k=c
structure Kn(ops:Array Oper)(E:Nat->Option Di)(i:Nat)(pr:Nat->Prop)(es:List (Nat×Nat×Option Di)):Prop where
 in_:∀k d v,(k,d,v)∈es->k<i/\E k=v/\∃o,ops[k]?=some o/\o.dst=some d
 all:∀k o d,k<i->pr k->ops[k]?=some o->o.dst=some d->(k,d,E k)∈es
theorem Kn.frame{es:List (Nat×Nat×Option Di)}{S:Nat->Bool}{O:Dk}(h:Kn ops E i pr es)(hS:ShapeW n ops)(F:FrI ops ρ E S vals O){t:Nat}(h1:∀k o,ops[k]?=some o->o.dst=some t->(k<i->S k=true/\pr k)/\(S k=true->k<i)):frE es vals ρ t=O t:=by
 by_cases hx:∃k o,ops[k]?=some o/\o.dst=some t/\S k=true
 ·obtain⟨k,o,H,U,W⟩:=hx;have hi:=(h1 k o H U).2 W;rw[F.at_ k o t H U W];refine qsj _ _ (λk' v Z=>?_) (.inr ⟨k,_,h.all k o t hi (by grind) H U⟩);obtain⟨_,he,o',aa,ab⟩:=h.in_ _ _ _ Z;obtain rfl:=hS.uniq k o k' o' t H aa ab U;cases v with
  | none=>rfl
  | some c=>exact(F.still k' o c H he W).symm
 ·rw[F.miss t (by grind)];refine qsj _ _ (λk v Z=>?_) (.inl rfl);obtain⟨hi,_,o,H,U⟩:=h.in_ _ _ _ Z
  grind
def qaaw(P:Df)(ops:Array Oper)(E:Nat->Option Di)(I:(Nat->Bool)->Dk->Dl)(ρ:Dk)(i:Nat)(o:Oper):Prop:=
 ∃es,Kn ops E i (·∈qaw o) es/\∀S vals w,S i=false->(∀j∈qaw o,S j=true)->I S vals w->∃R:Di->Dd->Prop,qco P ops.toList o (frE es vals ρ) w R/\∀H w',R H w'->isG (E i) H/\I (setS S i) (upd vals i H) w'
theorem q11{Q:Dk->Dl}(hS:ShapeW n ops)(hE:∀i o,ops[i]?=some o->qaaw P ops E I ρ i o)(hF:∃es,Kn ops E ops.size (λ_=>True) es/\∀vals w,I (λ_=>true) vals w->Q (frE es vals ρ) w):
  ∀(fuel:Nat) (L:Array Bool) (vals H:Dk) (a:Act) (w:Dd),L.toList.count false<=fuel->L.size=ops.size->(∀k o,ops[k]?=some o->L.getD k true=true->∀j∈qaw o,L.getD j true=true)->
  FrI ops ρ E (λj=>L.getD j true) vals H->St n H a->I (λj=>L.getD j true) vals w->wpAny P .any ops (λe a' w'=>e=.normal/\∃W,St n W a'/\Q W w') fuel L a w:=by
 obtain⟨ef,hA,hF⟩:=hF;have ab:∀(L:Array Bool) (vals H:Dk) (a:Act) (w:Dd),(∀k,k<ops.size->L.getD k true=true)->L.size=ops.size->FrI ops ρ E (λj=>L.getD j true) vals H->St n H a->I (λj=>L.getD j true) vals w->
   (Exit.normal=.normal/\∃W,St n W a/\Q W w):=λL vals H a w O Z F ha hI=>by
  have hT:(λj=>L.getD j true)=λ_=>true:=by
   grind
  have he:frE ef vals ρ=H:=funext λt=>hA.frame hS F (by grind)
  grind
 intro fuel
 induction fuel with
 | zero=>
  intro L vals H a w hc Z _ F ha hI;have O:∀k,k<ops.size->L.getD k true=true:=λk U=>by
   have h1:=List.count_eq_zero.1 (show L.toList.count false=0 by omega);have ae:k<L.size:=by omega
   cases hv:L[k]with
   | true=>simp[ae,hv]
   | false=>grind
  exact⟨qoh O,ab L vals H a w O Z F ha hI⟩
 | succ fuel ih=>
  intro L vals H a w hc Z aj F ha hI;refine⟨(by grind [qvi]),λi hi=>?_⟩;obtain⟨af,o,ho,O⟩:=mem_ready.1 hi;have ag:∀k∈qaw o,L.getD k true=true:=λk U=>by
   obtain⟨e,he,hb,ak⟩:=qb3.1 U
   grind [qdd]
  obtain⟨es,hK,ah⟩:=hE i o ho;obtain⟨R,h,hR⟩:=ah _ vals w af ag hI;refine qx5 ho hS ha (λt ht=>hK.frame hS F λk ok U hd=>?_) h λv' w' hr=>?_
  ·rcases hS.look i o k ok t ho U hd ht with h|h
   ·exact⟨(by grind),λ_=>hS.lt i o ho k h⟩
   ·have:=hS.lt k ok U i h
    grind
  ·obtain⟨hv,ad⟩:=hR v' w' hr;rw[<-qmp]at ad;refine ih _ (upd vals i v') (match o.dst with|some d=>upd H d v' | none=>H) _ _ (by grind [countP_set]) (by simp[Z]) ?_ ?_ ?_ ad
   ·have al:∀j,L.getD j true=true->(L.setIfInBounds i true).getD j true=true:=λj hj=>by
     rw[congrFun qmp j,setS,hj];simp
    intro k ok U hl j hj;rw[congrFun qmp k]at hl
    grind [qc9]
   ·rw[qmp];refine⟨λk ok d U hd hs=>?_,λt ht=>?_,λk ok c U he hs=>?_⟩
    ·rcases qc9 hs with rfl|⟨aa,hs⟩
     ·obtain rfl:=Bg (ho.symm.trans U)
      simp_all[qca]
     ·rw[qau _ _ _ _ aa,<-F.at_ k ok d U hd hs];cases ac:o.dst with
      | none=>rfl
      | some d'=>exact qau _ _ _ _ λe=>aa (hS.uniq i o k ok d ho U hd (e ▸ ac))
    ·rw[<-F.miss t (by grind [setS])];cases ac:o.dst with
     | none=>rfl
     | some d'=>exact qau _ _ _ _ λe=>ht i o ho (by simp[setS]) (e ▸ ac)
    ·rcases qc9 hs with rfl|⟨aa,hs⟩
     ·rw[he]at hv;rw[qca];exact hv
     ·rw[qau _ _ _ _ aa];exact F.still k ok c U he hs
   ·cases ai:o.dst with
    | none=>exact ha
    | some d=>exact ha.put (hS.dn i o ho d ai) v'
end
structure AnyV(P:Df)(n:Nat)(ops:Array Oper)(R:Dk->Dl)(ρ:Dk)(w:Dd):Prop where
 h:∀a,St n ρ a->wpAny P .any ops (λe a' w'=>e=.normal/\∃ρ',St n ρ' a'/\R ρ' w') ops.size (Array.replicate ops.size false) a w.drew
theorem AnyV.draw{n:Nat}{Q:Exit->Dk->Dl}(O:P.follows .mixedOrders=true)(h:AnyV P n ops (λH w'=>Q .normal H w') ρ w):DrawV P n id ops Q ρ w:=
 ⟨λa U=>Code.wp_mono (by grind) (wp_region_any O (h.h a U))⟩
section
variable {P:Df} {n:Nat} {ops:Array Oper} {R:Dk->Dl} {ρ:Dk} {w:Dd}
theorem AnyV.core(O:qhy n ops=true)(h0:∀vals,I (λj=>Nat.ble ops.size j) vals w.drew)(U:∀i o,ops[i]?=some o->qaaw P ops E I ρ i o)(W:∃es,Kn ops E ops.size (λ_=>True) es/\∀vals w,I (λ_=>true) vals w->R (frE es vals ρ) w):AnyV P n ops R ρ w:=by
 have e:(λj=>(Array.replicate ops.size false).getD j true)=λj=>Nat.ble ops.size j:=by
  funext j
  rcases AM j ops.size with H|H
  ·have Z:Nat.ble ops.size j=false:=CB.2 λe=>by have:=Cd e;omega
   simp[H,Z]
  simp_all
 have no:∀{k o},ops[k]?=some o->Nat.ble ops.size k=true->False:=(by grind [Nat.le_of_ble_eq_true])
 refine⟨λa ha=>q11 (qou O) U W _ _ (λ_=>undef) ρ a _ Js Js (λk o ho hk=>?_) ?_ ha ?_⟩
 ·simp_all
 ·rw[e];exact⟨(by grind),λ_ _=>rfl,(by grind)⟩
 simp_all
def regX{α:Type}(A:Nat->Oper->EL α->Dk->Option Di->α->Prop)(B:EL α->Dk->Prop):List Oper->Nat->EL α->Dk->Prop
 | [],_,es,ρ=>B es ρ
 | o::l,k,es,ρ=>∃v x,A k o es ρ v x/\regX A B l (k+1) (qj2 k x es o.dst v) (updO ρ o.dst v)
structure Sofar{α:Type}(ops:Array Oper)(E:Nat->Option Di)(X:Nat->α)(k:Nat)(es:EL α)(st:List (Nat×Nat×Option Di)):Prop where
 st:∀j d v,(j,d,v)∈st↔j<k/\E j=v/\v≠none/\∃o,ops[j]?=some o/\o.dst=some d
 es:∀j d x,(j,d,x)∈es↔j<k/\E j=none/\X j=x/\∃o,ops[j]?=some o/\o.dst=some d
section
variable {α:Type}
theorem qmo{A:Nat->Oper->EL α->Dk->Option Di->α->Prop}{B:EL α->Dk->Prop}:∀(l:List Oper) (k:Nat) (es:EL α) (O:Dk) (E:Nat->Option Di) (X:Nat->α) (H:List (Nat×Nat×Option Di)),
  (∀(j:Nat) (o:Oper),l[j]?=some o->ops[k+j]?=some o)->(∀vals,O=frE H vals ρ)->Sofar ops E X k es H->regX A B l k es O->∃E' X',(∀j,j<k\/k+l.length<=j->E' j=E j/\X' j=X j)/\
   (∀i o,k<=i->i<k+l.length->ops[i]?=some o->∃es H Z,(∀vals,Z=frE H vals ρ)/\Sofar ops E' X' i es H/\A i o es Z (E' i) (X' i))/\
   ∃es H Z,(∀vals,Z=frE H vals ρ)/\Sofar ops E' X' (k+l.length) es H/\B es Z
 | [],k,es,O,E,X,H,_,U,hs,h=>⟨E,X,Js,(by grind),es,H,O,U,hs,h⟩
 | o::l,k,es,O,E,X,H,hl,U,hs,⟨v,x,hA,h⟩=>by
  have ho:ops[k]?=some o:=hl 0 o rfl;have ab:∀(j:Nat) (o:Oper),l[j]?=some o->ops[k+1+j]?=some o:=λj o h=>by rw[show k+1+j=k+(j+1)by omega];simp_all
  obtain⟨E1,hE,af⟩:∃E1:Nat->Option Di,(∀j,j≠k->E1 j=E j)/\E1 k=v:=⟨λj=>if j=k then v else E j,(by grind),Af rfl⟩
  obtain⟨X1,hX,ag⟩:∃X1:Nat->α,(∀j,j≠k->X1 j=X j)/\X1 k=x:=⟨λj=>if j=k then x else X j,(by grind),Af rfl⟩
  have ac:∀{E':Nat->Option Di} {X':Nat->α},(∀j,j<k->E' j=E j/\X' j=X j)->Sofar ops E' X' k es H:=λh=>⟨λj d v=>(hs.st j d v).trans (by grind),λj d x=>(hs.es j d x).trans (by grind)⟩
  have W:=ac λj hj=>⟨hE j (Nat.ne_of_lt hj),hX j (Nat.ne_of_lt hj)⟩
  obtain⟨aa,h1,h2⟩:∃aa,(∀vals,updO O o.dst v=frE aa vals ρ)/\Sofar ops E1 X1 (k+1) (qj2 k x es o.dst v) aa:=by
   cases hd:o.dst with
   | none=>exact⟨H,U,⟨by grind [W.st],by grind [W.es,qj2]⟩⟩
   | some d=>
    cases v with
    | none=>exact⟨H,U,⟨by grind [W.st],by grind [W.es,qj2]⟩⟩
    | some c=>exact⟨H++[(k,d,some c)],λvals=>by rw[qbi,<-U];rfl,⟨by grind [W.st],by grind [W.es,qj2]⟩⟩
  obtain⟨E',X',k1,k2,k3⟩:=qmo l (k+1) _ _ E1 X1 aa ab h1 h2 h;have ad:k+(o::l).length=k+1+l.length:=by grind
  rw[ad];have k4:∀j,j<k\/k+1+l.length<=j->E' j=E j/\X' j=X j:=(by grind)
  refine⟨E',X',k4,λi o' hi ah ae=>?_,k3⟩
  by_cases e:i=k
  ·subst e;obtain rfl:=Bg (ho.symm.trans ae);refine⟨es,H,O,U,(by grind),?_⟩
   simp_all
  grind
theorem qz9{A:Nat->Oper->EL α->Dk->Option Di->α->Prop}{B:EL α->Dk->Prop}(x:α)(h:regX A B ops.toList 0 [] ρ):∃E X,(∀i o,ops[i]?=some o->∃es O H,(∀vals,H=frE O vals ρ)/\Sofar ops E X i es O/\A i o es H (E i) (X i))/\
  ∃es O H,(∀vals,H=frE O vals ρ)/\Sofar ops E X ops.size es O/\B es H:=by
 obtain⟨E,X,_,U,W⟩:=qmo (ops:=ops) (ρ:=ρ) _ 0 [] ρ (λ_=>none) (λ_=>x) [] Js (λ_=>rfl) ⟨by simp,by simp⟩ h
 grind
theorem qcp{es:EL α}{x:Nat×α}(h:qfa es k=some x):(k,x)∈es:=by
 induction es<;>grind [qfa,Nat.eq_of_beq_eq_true]
theorem qgz{es:EL α}{x:Nat×α}(h:(k,x)∈es):k∈idxs es/\∃x,qfa es k=some x:=by
 induction es with
 | nil=>cases h
 | cons y es H=>
  obtain⟨i,y⟩:=y;simp only[qfa,idxs];cases O:Nat.beq i k
  ·rcases Aw.1 h with e|h
   all_goals simp_all
  simp_all
def subA(es:EL α)(H:Do):List (Nat×Nat×Option Di):=H.filterMap λk=>(qfa es k).map λx=>(k,x.1,none)
theorem Sofar.kn{X:Nat->α}{es:EL α}{st:List (Nat×Nat×Option Di)}(O:Sofar ops E X i es st){ks:Do}(hk:∀k x,(k,x)∈es->pr k->k∈ks):Kn ops E i pr (st++subA es ks):=by
 refine⟨λk d v H=>?_,λk o d aa hp ho hd=>?_⟩
 ·rcases AJ.1 H with H|H
  ·obtain⟨h1,h2,_,h3⟩:=(O.st _ _ _).1 H
   simp_all
  ·obtain⟨k',_,h⟩:=CS.1 H;obtain⟨x,U,e⟩:=Co.1 h;cases e;obtain⟨h1,h2,_,h3⟩:=(O.es _ _ _).1 (qcp U)
   simp_all
 ·cases he:E k with
  | some c=>exact Am _ ((O.st _ _ _).2 (by grind))
  | none=>
   have H:=(O.es k d (X k)).2 (by grind);obtain⟨x,U⟩:=(qgz H).2;obtain⟨_,_,_,o',W,Z⟩:=(O.es _ _ _).1 (qcp U);obtain rfl:=Bg (ho.symm.trans W);obtain rfl:=Bg (hd.symm.trans Z);exact Aa _ (CS.2 ⟨k,hk _ _ H hp,by rw[U];rfl⟩)
end
theorem qpf{es:EL Dj}{vals:Dk}{w:Dd}{K:Dk->Prop}:∀(H:Do) (ρ:Dk),(∀k d U,qfa es k=some (d,U)->k∈H->U (vals k) w)->allA es H ρ w K->K (frE (subA es H) vals ρ)
 | [],_,_,h=>h
 | k::H,ρ,Z,h=>by
  unfold allA at h;have W:=λρ h=>qpf (vals:=vals) (K:=K) H ρ (λk' d U hl hm=>Z k' d U hl (Cv _ hm)) h
  unfold subA at W|-;cases O:qfa es k with
  | none=>rw[O]at h;simpa[O]using W _ h
  | some x=>
   rw[O]at h;have:=W _ (h _ (Z k _ _ O (AD ..)))
   simpa[O,frE]using this
theorem qz8{P:Df}{ops:List Oper}{w0:Dd}{Q:Dk->Dl}:∀(l:List Oper) (k:Nat) (es:EL Dj) (ρ:Dk),regD P ops w0 Q l k es ρ->
  regX (λ_ o es ρ v O=>(∀u w,O u w->isG v u)/\(∀u w w',O u w->Ext w w'->O u w')/\∀w,Ext w0 w->allA es (qaw o) ρ w λH=>qco P ops o H w λv w'=>Ext w w'/\O v w') (λes ρ=>∀w,Ext w0 w->allA es (idxs es) ρ w λH=>Q H w) l k es ρ
 | [],_,_,_,h=>h
 | _::l,_,_,_,⟨.inl ⟨v,U,W⟩⟩=>⟨some v,_,⟨λ_ _ h=>h,(by grind),U⟩,qz8 l _ _ _ W⟩
 | _::l,_,_,_,⟨.inr ⟨O,Z,U,W⟩⟩=>⟨none,O,⟨λ_ _ _=>trivial,Z,U⟩,qz8 l _ _ _ W⟩
theorem AnyV.free(hB:qhy n ops=true)(h:regD P ops.toList w.drew R ops.toList 0 [] ρ):AnyV P n ops R ρ w:=by
 obtain⟨E,X,h1,es,st,ab,Z,O,h2⟩:=qz9 (λ_ _=>True) (qz8 _ _ _ _ h);refine .core (E:=E) (I:=λS vals H=>Ext w.drew H/\∀(k:Nat) (o:Oper),ops[k]?=some o->S k=true->X k (vals k) H) hB (λvals=>⟨Ext.refl _,λk o ho hk=>?_⟩) (λi o ho=>?_) ⟨_,O.kn (ks:=idxs es) (by grind [qgz]),λvals H W=>?_⟩
 ·simp_all
 ·obtain⟨es,st,ac,Z,O,hv,_,h3⟩:=h1 i o ho;refine⟨_,O.kn (ks:=qaw o) λ_ _ _ h=>h,λS vals H hS hp W=>⟨λv w'=>Ext H w'/\X i v w',?_,λv' w' ⟨hx,aa⟩=>⟨hv _ _ aa,W.1.trans hx,λk o' U hk=>?_⟩⟩⟩
  ·rw[qbi,<-Z vals];exact qpf _ _ (λk d φ hl hm=>by
    obtain⟨_,_,e,o',U,_⟩:=(O.es _ _ _).1 (qcp hl)
    grind) (h3 H W.1)
  grind [qc9,qca,qau]
 ·rw[qbi,<-Z vals];exact qpf _ _ (λk d φ hl _=>by
   obtain⟨_,_,e,o',U,_⟩:=(O.es _ _ _).1 (qcp hl)
   grind) (h2 H W.1)
theorem qxx{vals:Dk}:∀(es:EL Unit) (ρ:Dk),frG es vals ρ=frE (es.map λx=>(x.1,x.2.1,none)) vals ρ
 | [],_=>rfl
 | _::es,_=>qxx es _
theorem Sofar.knG{X:Nat->Unit}{es:EL Unit}{U:List (Nat×Nat×Option Di)}(O:Sofar ops E X i es U):Kn ops E i pr (U++es.map λx=>(x.1,x.2.1,none)):=by
 refine⟨λk d v H=>?_,λk o d W hp ho hd=>?_⟩
 ·rcases AJ.1 H with H|H
  ·obtain⟨Z,h2,_,h3⟩:=(O.st _ _ _).1 H
   simp_all
  ·obtain⟨x,hx,e⟩:=AG.1 H;cases e;obtain⟨Z,h2,_,h3⟩:=(O.es _ _ _).1 hx
   simp_all
 ·cases he:E k with
  | some c=>exact Am _ ((O.st _ _ _).2 (by grind))
  | none=>exact Aa _ (AG.2 ⟨_,(O.es k d (X k)).2 (by grind),rfl⟩)
theorem q6k{P:Df}{ops:List Oper}{I:(Nat->Bool)->Dk->Dl}{Q:Dk->Dl}:∀(l:List Oper) (k:Nat) (es:EL Unit) (ρ:Dk),regG P ops I Q l k es ρ->
  regX (λk o es ρ v _=>∀S vals w,S k=false->(∀j∈qaw o,S j=true)->I S vals w->qco P ops o (frG es vals ρ) w λH w'=>isG v H/\I (setS S k) (upd vals k H) w') (λes ρ=>∀vals w,I (λ_=>true) vals w->Q (frG es vals ρ) w) l k es ρ
 | [],_,_,_,h=>h
 | _::l,_,_,_,⟨v,O,U⟩=>⟨v,_,O,q6k l _ _ _ U⟩
theorem AnyV.gen(I:(Nat->Bool)->Dk->Dl)(O:qhy n ops=true)(U:∀vals,I (λj=>Nat.ble ops.size j) vals w.drew)(h:regG P ops.toList I R ops.toList 0 [] ρ):AnyV P n ops R ρ w:=by
 obtain⟨E,X,W,es,Z,aa,hr,H,h2⟩:=qz9 () (q6k _ _ _ _ h);refine .core (E:=E) (I:=I) O U (λi o ho=>?_) ⟨_,H.knG,λvals w1 hI=>?_⟩
 ·obtain⟨es,Z,ab,hr,H,h3⟩:=W i o ho;refine⟨_,H.knG,λS vals w1 hS hp hI=>⟨_,?_,λv' w' h=>h⟩⟩
  grind [qbi,qxx]
 grind [qbi,qxx]
theorem qti{P:Df}{ops:List Oper}{I:(Nat->Bool)->Dl}{Q:Dk->Dl}:∀(l:List Oper) (k:Nat) (ρ:Dk),regI P ops I Q l k ρ->regG P ops (λS _ w=>I S w) Q l k [] ρ
 | [],_,_,h=>λ_ w H=>h w H
 | o::l,k,ρ,⟨v,O,U⟩=>⟨some v,λS _ w W Z H=>O S w W Z H,by
  have:qj2 k () [] o.dst (some v)=[]:=by cases o.dst<;>rfl
  rw[this];exact qti l _ _ U⟩
end
section
variable {P:Df} {n id:Nat} {ops:Array Oper} {Q:Exit->Dk->Dl} {ρ:Dk} {w:Dd}
theorem DrawV.free(O:P.follows .mixedOrders=true)(U:qhy n ops=true)(h:regD P ops.toList w.drew (λH w'=>Q .normal H w') ops.toList 0 [] ρ):DrawV P n id ops Q ρ w:=(AnyV.free U h).draw O
theorem DrawV.gen(I:(Nat->Bool)->Dk->Dl)(O:P.follows .mixedOrders=true)(U:qhy n ops=true)(W:∀vals,I (λj=>Nat.ble ops.size j) vals w.drew)(h:regG P ops.toList I (λH w'=>Q .normal H w') ops.toList 0 [] ρ):DrawV P n id ops Q ρ w:=(AnyV.gen I U W h).draw O
theorem DrawV.inv(I:(Nat->Bool)->Dl)(O:P.follows .mixedOrders=true)(U:qhy n ops=true)(W:I (λj=>Nat.ble ops.size j) w.drew)(h:regI P ops.toList I (λH w'=>Q .normal H w') ops.toList 0 ρ):DrawV P n id ops Q ρ w:=.gen (λS _ w=>I S w) O U (λ_=>W) (qti _ _ _ h)
end
end V
namespace V
def resC(P:Df)(ρ:Dk)(w:Dd):List ResultVar->(Dn->Prop)->Prop
 | [],K=>K []
 | .tmp t::l,K=>qgv (ρ t) λv=>resC P ρ w l λvs=>K (v::vs)
 | .cell c H::l,K=>qus P H (ρ c) w λv=>resC P ρ w l λvs=>K (v::vs)
def one(vs:Dn):Di:=
 match vs with
 | [v]=>v
 | l=>.tuple l.toArray
theorem qut{t:Dg}{K:Di->Prop}(h:qus P t x w K):∃v,(do loadVar t (<-asAddr x):Sem Di).run P w=.ok v w/\K v:=by
 unfold qus at h
 split at h
 ·rename_i d b off hu
  cases U:aggD d<;>rw[U]at h
  ·obtain⟨v,H,O⟩:=h
   simp_all[qbb,asAddr,loadVar,qc8]
  ·cases W:hasT P t<;>rw[W]at h
   ·exact h.elim
   ·obtain⟨cs,hl,Z,O⟩:=h;rw[qan]at O;refine⟨_,?_,O⟩;have:=run_loadCells_list (P:=P) w ⟨b,off,none⟩ cs (λj v H=>by
     have hj:j<cs.length:=by
      rcases AM j cs.length with h|h
      ·exact h
      ·rw[AS h]at H;cases H
     rw[q8,Z j Oo];exact H)
    simp_all[asAddr,loadVar,qc8,qv]
 ·exact h.elim
theorem q9l{H:Dq}(O:∀t,H.getD t undef=ρ t)(l:List ResultVar):∀K:Dn->Prop,resC P ρ w l K->
  ∃vs,(l.mapM (resF H)).run P w=.ok vs w/\K vs:=by
 induction l with
 | nil=>intro K h;exact⟨[],by simp,h⟩
 | cons x l W=>
  intro K h;cases x with
  | tmp t=>
   simp only[resC,qbb]at h
   grind [Sem.run_bind,resF,Sem.run_pure,Result.andThen_ok]
  | cell c U=>
   simp only[resC]at h;obtain⟨v,Z,hk⟩:=qut h;obtain⟨vs,h1,h2⟩:=W _ hk;refine⟨v::vs,?_,h2⟩;have e:resF H (.cell c U)=(do loadVar U (<-asAddr (ρ c))):=by rw[<-O];rfl
   rw[List.mapM_cons,Sem.run_bind,e,Z,Result.andThen_ok,Sem.run_bind,h1];rfl
theorem qk{n:Nat}{H:Func}(h:resC P ρ w H.results.toList λvs=>R (one vs) w):
  ∀a,St n ρ a->∃v,(results H a.tmps).run P w=.ok v w/\R v w:=by
 intro a O;obtain⟨vs,U,W⟩:=q9l O.get H.results.toList _ h;refine⟨one vs,?_,W⟩;have e:results H a.tmps=(do let vs <-H.results.mapM (resF a.tmps);pure (if h:vs.size=1 then vs[0]else .tuple vs)):=by
  rfl
 rw[e,Cy];simp[U]
 match vs with
 | [v]=>rfl
 | []=>rfl
 | v::u::l=>simp[one]
end V
namespace V
structure Chg(w w':Dd)(B:List (Option Nat)):Prop where
 os:w'.os=w.os
 tape:w'.tape=w.tape
 output:w'.output=w.output
 size:w.heap.size<=w'.heap.size
 block:∀k,k<w.heap.size->some k∉B->w'.heap[k]?=w.heap[k]?
theorem Chg.ext{B:List (Option Nat)}(h:Ext w w'):Chg w w' B:=⟨h.os,h.tape,h.output,h.size,λk H _=>h.block k H⟩
def q3d(u:Option Nat)(i:Option Nat):Bool:=
 match u with
 | none=>true
 | some a=>match i with
  | none=>false
  | some b=>Nat.beq a b
abbrev AL:=EL (Option Nat×Dj)
def allO(base:Nat)(es:AL)(i:Option Nat):Do->Dk->Dd->(Dk->Prop)->Prop
 | [],ρ,_,K=>K ρ
 | k::H,ρ,w,K=>
  match qfa es k with
  | some (d,u,O)=>bif q3d u i then ∀v,O v w->(∀g,v.ownBlock=some g->base<=g/\g<w.heap.size)->allO base es i H (upd ρ d v) w K else ∀v,allO base es i H (upd ρ d v) w K
  | none=>allO base es i H ρ w K
def qjw(es:AL)(i:Nat):Do->Dk->List (Option Nat)
 | [],_=>[]
 | k::H,ρ=>
  match qfa es k with
  | some (d,u,_)=>match u with
   | some j=>bif Nat.beq j i then(ρ d).ownBlock::qjw es i H ρ else qjw es i H ρ
   | none=>qjw es i H ρ
  | none=>qjw es i H ρ
def Loc(base:Nat)(H:Dj):Prop:=
 ∀v w w',H v w->(∀k,k<w.heap.size->(k<base\/v.ownBlock=some k)->w'.heap[k]?=w.heap[k]?)->w.heap.size<=w'.heap.size->H v w'
def PostO(w:Dd)(B:List (Option Nat))(H:Bool)(O:Dj)(v:Di)(w':Dd):Prop:=
 Chg w w' B/\O v w'/\(H=false->∀g,v.ownBlock=some g->g<w'.heap.size/\(some g∈B\/w.heap.size<=g))
structure StepO(base:Nat)(A:Bool->Dj->Prop)(K:Option Di->Option Nat->Dj->Prop):Prop where
 h:(∃v,A true (λu _=>u=v)/\K (some v) none (λu _=>u=v))\/(∃u φ,Loc base φ/\A false φ/\K none u φ)
theorem StepO.still{A:Bool->Dj->Prop}{K:Option Di->Option Nat->Dj->Prop}(v:Di)(h:A true (λu _=>u=v))(H:K (some v) none (λu _=>u=v)):StepO base A K:=⟨(by grind)⟩
def regO(P:Df)(ops:List Oper)(w0:Dd)(Q:Dk->Dl):List Oper->Nat->AL->Dk->Prop
 | [],_,_,_=>False
 | [o],k,es,ρ=>∀w,Ext w0 w->allO w0.heap.size es (some k) (idxs es) ρ w λH=>qco P ops o H w λv w'=>Q (updO H o.dst (some v)) w'
 | o::l,k,es,ρ=>StepO w0.heap.size
   (λO U=>∀w,Ext w0 w->allO w0.heap.size es (some k) (qaw o) ρ w λH=>qco P ops o H w (PostO w (qjw es k (qaw o) H) O U))
   (λv u U=>regO P ops w0 Q l (k+1) (qj2 k (u,U) es o.dst v) (updO ρ o.dst v))
section
variable {P:Df} {n:Nat} {ops:Array Oper} {base:Nat}
theorem qnu{H O:Dk}:∀(es:List (Nat×Nat×Option Di)) (ρ:Dk),(∀k d v,(k,d,v)∈es->H k=O k)->frE es H ρ=frE es O ρ
 | [],_,_=>rfl
 | (k,d,v)::es,ρ,h=>by
  rw[frE,frE,h k d v (AD ..)];exact qnu es _ λk d v U=>h k d v (Cv _ U)
theorem qpg{es:AL}{i:Option Nat}{vals:Dk}{w:Dd}{K:Dk->Prop}:∀(H:Do) (ρ:Dk),
  (∀k d u O,qfa es k=some (d,u,O)->k∈H->q3d u i=true->O (vals k) w/\∀g,(vals k).ownBlock=some g->base<=g/\g<w.heap.size)->allO base es i H ρ w K->K (frE (subA es H) vals ρ)
 | [],_,_,h=>h
 | k::H,ρ,U,h=>by
  unfold allO at h;have Z:=λρ h=>qpg (vals:=vals) (K:=K) H ρ (λk' d u O hl hm=>U k' d u O hl (Cv _ hm)) h
  unfold subA at Z|-;cases W:qfa es k with
  | none=>rw[W]at h;simpa[W]using Z _ h
  | some x=>
   obtain⟨d,u,O⟩:=x;rw[W]at h;have U:=U k d u O W (AD ..);have:K (frE (H.filterMap λk=>(qfa es k).map λx=>(k,x.1,none)) vals (upd ρ d (vals k))):=by
    simp only at h;cases hb:q3d u i<;>rw[hb]at h
    ·exact Z _ (h _)
    ·exact Z _ (h _ (U hb).1 (U hb).2)
   simpa[W,frE]using this
theorem qpa{es:AL}{i:Nat}{ρ:Dk}{g:Nat}:∀H,some g∈qjw es i H ρ->∃k d O,k∈H/\qfa es k=some (d,some i,O)/\(ρ d).ownBlock=some g
 | [],h=>by cases h
 | k::H,h=>by
  have Z:=qpa (es:=es) (i:=i) (ρ:=ρ) (g:=g) H;unfold qjw at h
  split at h
  ·rename_i d u O W
   split at h
   ·rename_i j
    cases U:Nat.beq j i<;>rw[U]at h
    ·grind
    ·have:=AR U;subst this
     rcases Aw.1 h with h|h
     ·exact⟨k,d,O,AD ..,W,h.symm⟩
     ·grind
   ·grind
  ·grind
def Live(X:Nat->Option Nat×Dj)(S:Nat->Bool)(k:Nat):Prop:=S k=true/\∀j,(X k).1=some j->S j=false
structure InvO(base m:Nat)(E:Nat->Option Di)(X:Nat->Option Nat×Dj)(S:Nat->Bool)(vals:Dk)(w:Dd):Prop where
 φ:∀k,k<m->Live X S k->(X k).2 (vals k) w
 own:∀k g,k<m->E k=none->Live X S k->(vals k).ownBlock=some g->base<=g/\g<w.heap.size
 apart:∀k k' g,k<m->k'<m->E k=none->E k'=none->Live X S k->Live X S k'->k≠k'->(vals k).ownBlock=some g->(vals k').ownBlock≠some g
theorem qkj{X:Nat->Option Nat×Dj}{S:Nat->Bool}(h:q3d (X k).1 (some i)=true)(H:S k=true)(U:S i=false):Live X S k:=by
 refine⟨H,λj O=>?_⟩;rw[O]at h;have:j=i:=AR h
 simp_all
theorem InvO.step{X:Nat->Option Nat×Dj}{S:Nat->Bool}{v:Di}{B:List (Option Nat)}(J:InvO base m E X S vals w)(hi:S i=false)(ar:base<=w.heap.size)(ad:∀k,k<m->E k=none->Loc base (X k).2)(au:∀k,k<m->E k≠none->∀x w w',(X k).2 x w->(X k).2 x w')(hB:∀g,some g∈B->∃k,k<m/\E k=none/\(X k).1=some i/\S k=true/\(vals k).ownBlock=some g)(h:PostO w B (E i).isSome (X i).2 v w'):InvO base m E X (setS S i) (upd vals i v) w':=by
 obtain⟨U,av,ae⟩:=h;have ac:∀g,some g∈B->∃k,k<m/\E k=none/\(X k).1=some i/\Live X S k/\(vals k).ownBlock=some g:=λg W=>by
  obtain⟨k,h1,h2,h3,h4,h5⟩:=hB g W;exact⟨k,h1,h2,h3,⟨h4,λj hj=>by rw[h3]at hj;cases hj;exact hi⟩,h5⟩
 have aq:∀g,some g∈B->base<=g/\g<w.heap.size:=λg W=>by
  obtain⟨k,h1,h2,_,h4,h5⟩:=ac g W;exact J.own k g h1 h2 h4 h5
 have ab:∀{k},Live X (setS S i) k->k=i\/(k≠i/\Live X S k/\(X k).1≠some i):=λ{k} ⟨h1,h2⟩=>by
  rcases qc9 h1 with rfl|⟨O,h1⟩
  ·omega
  ·refine .inr ⟨O,⟨h1,λj hj=>?_⟩,λhu=>?_⟩
   all_goals simp_all[setS]
 have new:∀k g,k<m->E k=none->Live X S k->(X k).1≠some i->E i=none->v.ownBlock=some g->(vals k).ownBlock≠some g:=λk g O hE H hu ai W Z=>by
  rcases(ae (by rw[ai];rfl) g W).2 with h2|h2
  ·obtain⟨k2,h3,h4,h5,h6,h7⟩:=ac g h2;exact J.apart k k2 g O h3 hE h4 H h6 (by grind) Z h7
  ·have:=(J.own k g O hE H Z).2;omega
 refine⟨λk O H=>?_,λk g O hE H W=>?_,λk k' g O aj hE ak H al am W Z=>?_⟩
 ·rcases ab H with rfl|⟨aa,H,hu⟩
  ·grind [qca]
  ·rw[qau _ _ _ _ aa];have af:=J.φ k O H
   by_cases hE:E k=none
   ·refine ad k O hE _ w w' af (λb hb an=>U.block b hb λag=>?_) U.size
    rcases an with h|h
    ·grind
    ·obtain⟨k2,h3,h4,h5,h6,h7⟩:=ac b ag;exact J.apart k k2 b O h3 hE h4 H h6 (by grind) h h7
   grind
 ·rcases ab H with rfl|⟨aa,H,hu⟩
  ·grind [qca]
  ·rw[qau _ _ _ _ aa]at W;have:=J.own k g O hE H W;have:=U.size;omega
 ·rcases ab H with rfl|⟨aa,kl,hu⟩<;>rcases ab al with rfl|⟨ah,ao,aw⟩
  ·omega
  ·grind [qca,qau]
  ·grind [qca,qau]
  ·rw[qau _ _ _ _ aa]at W;rw[qau _ _ _ _ ah]at Z;exact J.apart k k' g O aj hE ak kl ao am W Z
def AO(P:Df)(ops:List Oper)(w0:Dd)(k:Nat)(o:Oper)(es:AL)(ρ:Dk)(v:Option Di)(x:Option Nat×Dj):Prop:=
 (v=none->Loc w0.heap.size x.2)/\(v≠none->∀u w w',x.2 u w->x.2 u w')/\(∀u w,x.2 u w->isG v u)/\∀w,Ext w0 w->allO w0.heap.size es (some k) (qaw o) ρ w λH=>qco P ops o H w (PostO w (qjw es k (qaw o) H) v.isSome x.2)
theorem q6l{ops:List Oper}{w0:Dd}{Q:Dk->Dl}:∀(l:List Oper) (k:Nat) (es:AL) (ρ:Dk),regO P ops w0 Q l k es ρ->∃H o,l=H++[o]/\
  regX (AO P ops w0)
   (λes ρ=>∀w,Ext w0 w->allO w0.heap.size es (some (k+H.length)) (idxs es) ρ w λO=>qco P ops o O w λv w'=>Q (updO O o.dst (some v)) w') H k es ρ
 | [],_,_,_,h=>h.elim
 | [o],k,es,ρ,h=>⟨[],o,rfl,h⟩
 | o::W::l,k,es,ρ,h=>by
  have U:∀v x,AO P ops w0 k o es ρ v x->regO P ops w0 Q (W::l) (k+1) (qj2 k x es o.dst v) (updO ρ o.dst v)->∃H Z,o::W::l=H++[Z]/\regX (AO P ops w0) (λes ρ=>∀w,Ext w0 w->allO w0.heap.size es (some (k+H.length)) (idxs es) ρ w λO=>qco P ops Z O w λv w'=>Q (updO O Z.dst (some v)) w') H k es ρ:=λv x hA hK=>by
   obtain⟨H,o',e,hX⟩:=q6l (W::l) _ _ _ hK;refine⟨o::H,o',by rw[e];rfl,v,x,hA,?_⟩;rw[show k+(o::H).length=k+1+H.length by rw[AH];omega];exact hX
  obtain⟨v,h1,h2⟩|⟨u,φ,h0,h1,h2⟩:=StepO.h h
  ·exact U (some v) (none,_) ⟨(nomatch ·),Js,λ_ _ h=>h,h1⟩ h2
  ·exact U none (u,φ) ⟨λ_=>h0,Js,λ_ _ _=>trivial,h1⟩ h2
end
def qay(ops:Array Oper):Bool:=
 match ops[ops.size-1]? with
 | some o=>(List.range (ops.size-1)).all λk=>(qaw o).contains k
 | none=>false
theorem DrawV.own{n:Nat}{Q:Exit->Dk->Dl}(Z:P.follows .mixedOrders=true)(hB:(qhy n ops&&qay ops)=true)(h:regO P ops.toList w.drew (λH w'=>Q .normal H w') ops.toList 0 [] ρ):DrawV P n id ops Q ρ w:=by
 obtain⟨hW,hL⟩:=Bool.and_eq_true_iff.1 hB;obtain⟨l,ol,el,hX⟩:=q6l _ _ _ _ h;have hS:=qou hW;obtain⟨m,em⟩:∃m,m=l.length:=⟨_,rfl⟩
 have az:ops.size=m+1:=by have:=Ae List.length el;grind
 have al:ops[m]?=some ol:=by rw[<-Cs,el,em];simp
 have am:∀k,k<m->k∈qaw ol:=λk U=>by
  simp_all[qay]
 obtain⟨E,X,U,h1,es,st,a0,hr,hs,h2⟩:=qmo (ops:=ops) (ρ:=ρ) l 0 [] ρ (λ_=>none) (λ_=>(none,λ_ _=>True)) [] (λj o hj=>by
  rw[<-Cs,el,Aq,Bb (Ad.1 hj).1];exact hj) (λ_=>rfl) ⟨by simp,by simp⟩ hX
 rw[Aq,<-em]at hs h2;have h1:=λi o (hi:i<m) ho=>h1 i o (An _) Oo ho
 have an:E m=none:=(by grind)
 have kn:=hs.kn (pr:=λ_=>True) (ks:=idxs es) (by grind [qgz]);obtain⟨ea,ag⟩:∃ea,ea=st++subA es (idxs es):=⟨_,rfl⟩
 rw[<-ag]at kn;obtain⟨eb,ao⟩:∃eb:List (Nat×Nat×Option Di),eb=match ol.dst with|some d=>[(m,d,none)]|none=>[]:=⟨_,rfl⟩
 have ad:∀vals H,frE eb vals H=updO H ol.dst (some (vals m)):=λvals H=>by subst ao;cases ol.dst<;>rfl
 have ah:∀{S:Nat->Bool} {vals:Dk} {O:Dd},(bif S m then(∀j,j<m->S j=true)/\Q .normal (frE (ea++eb) vals ρ) O else Ext w.drew O/\InvO w.drew.heap.size m E X S vals O)->S m=false->Ext w.drew O/\InvO w.drew.heap.size m E X S vals O:=(by grind)
 refine(AnyV.core (E:=E) (I:=λS vals O=>bif S m then(∀j,j<m->S j=true)/\Q .normal (frE (ea++eb) vals ρ) O else Ext w.drew O/\InvO w.drew.heap.size m E X S vals O) hW (λvals=>?_) (λi o ho=>?_) ⟨ea++eb,⟨λk d v Z=>?_,λk o d U _ ho hd=>?_⟩,Js⟩).draw Z
 ·have no:∀{k},k<=m->Nat.ble ops.size k=false:=λ{k} U=>CB.2 λe=>by have:=Cd e;omega
  have nl:∀{k},k<m->¬Live X (λj=>Nat.ble ops.size j) k:=λ{k} U hl=>by have h:Nat.ble ops.size k=true:=hl.1;grind
  show bif Nat.ble ops.size m then _ else _;rw[no (Ao _)];exact⟨Ext.refl _,(by grind),(by grind),(by grind)⟩
 ·have hi:=(BO.1 ho).1
  rcases AM i m with ai | ai
  ·obtain⟨aa,aj,a1,aq,ae,_,_,hv,ar⟩:=h1 i o ai ho;have af:=ae.kn (pr:=(·∈qaw o)) (ks:=qaw o) λ_ _ _ h=>h
   refine⟨_,af,λS vals O ac hp hI=>?_⟩;cases au:S m with
   | true=>grind
   | false=>
    obtain⟨hx,J⟩:=ah hI au;have hB:∀g,some g∈qjw aa i (qaw o) (frE (aj++subA aa (qaw o)) vals ρ)->∃k,k<m/\E k=none/\(X k).1=some i/\S k=true/\(vals k).ownBlock=some g:=λg hg=>by
     obtain⟨k,d,φ,U,hl,av⟩:=qpa _ hg;obtain⟨h3,h4,h5,ok,h6,h7⟩:=(ae.es _ _ _).1 (qcp hl);refine⟨k,by omega,h4,by rw[h5],hp k U,?_⟩;rw[<-av]
     congr 1
     refine(qsj _ _ (λk' v Z=>?_) (.inr ⟨k,_,af.all k ok d h3 U h6 h7⟩)).symm;obtain⟨_,h8,aw,h9,ax⟩:=af.in_ _ _ _ Z;obtain rfl:=hS.uniq k ok k' aw d h6 h9 ax h7
     grind
    refine⟨PostO O (qjw aa i (qaw o) (frE (aj++subA aa (qaw o)) vals ρ)) (E i).isSome (X i).2,?_,λv' w' W=>⟨hv _ _ W.2.1,?_⟩⟩
    ·rw[qbi,<-aq vals];refine qpg (K:=λH=>qco P ops.toList o H O (PostO O (qjw aa i (qaw o) H) (E i).isSome (X i).2)) _ _ (λk d u φ hl Z ay=>?_) (ar O hx);obtain⟨h3,h4,h5,_⟩:=(ae.es _ _ _).1 (qcp hl);have ab:Live X S k:=(by grind [qkj])
     exact⟨by have:=J.φ k Oo ab;simp_all,λg hg=>J.own k g Oo h4 ab hg⟩
    ·have e:setS S i m=false:=by
      grind [setS,Nat.eq_of_beq_eq_true]
     show bif setS S i m then _ else _;rw[e];refine⟨⟨W.1.os.trans hx.os,W.1.tape.trans hx.tape,W.1.output.trans hx.output,A6 hx.size W.1.size,λk U=>?_⟩,J.step ac hx.size (λk U hE=>?_) (λk U hE=>?_) hB W⟩
     ·rw[W.1.block k (AE U hx.size) λZ=>?_]
      ·exact hx.block k U
      ·obtain⟨k',h3,h4,h5,h6,h7⟩:=hB k Z;have:=(J.own k' k h3 h4 ⟨h6,λj hj=>by rw[h5]at hj;cases hj;exact ac⟩ h7).1;omega
     ·obtain⟨_,_,_,_,_,h,_⟩:=h1 k _ U (BT Oo);exact h hE
     ·obtain⟨_,_,_,_,_,_,h,_⟩:=h1 k _ U (BT Oo);exact h hE
  ·obtain rfl:i=m:=by omega
   obtain rfl:=Bg (al.symm.trans ho);refine⟨ea,⟨kn.in_,λk o d U _=>kn.all k o d U trivial⟩,λS vals O ac hp hI=>?_⟩;obtain⟨hx,J⟩:=ah hI ac;refine⟨λv w'=>Q .normal (updO (frE ea vals ρ) ol.dst (some v)) w',?_,λv' w' hq=>⟨by rw[an];trivial,?_⟩⟩
   ·rw[ag,qbi,<-hr vals];refine qpg (K:=λH=>qco P ops.toList ol H O λv w'=>Q .normal (updO H ol.dst (some v)) w') _ _ (λk d u φ hl _ ay=>?_) (h2 O hx);obtain⟨h3,h4,h5,_⟩:=(hs.es _ _ _).1 (qcp hl);have ab:Live X S k:=(by grind [qkj])
    exact⟨by have:=J.φ k h3 ab;simp_all,λg hg=>J.own k g h3 h4 ab hg⟩
   ·have e:setS S i i=true:=by simp[setS]
    show bif setS S i i then _ else _;rw[e];refine⟨(by grind [setS]),?_⟩;rw[qbi,ad,qca,qnu ea ρ λk d v Z=>?_]
    ·exact hq
    ·exact qau _ _ _ _ (Nat.ne_of_lt (kn.in_ _ _ _ Z).1)
 ·rcases AJ.1 Z with Z|Z
  ·obtain⟨h3,h4⟩:=kn.in_ _ _ _ Z
   grind
  grind
 ·rcases AM k m with ak | ak
  ·exact Am _ (kn.all k o d ak trivial ho hd)
  grind
end V
namespace V
theorem zA{a b k:Prop}(h:k)(H:a:=by omega)(O:b:=by omega):Obl (a/\b) k:=⟨⟨H,O⟩,h⟩
theorem zB{a b c d k:Prop}(h:k)(H:a:=by omega)(O:b:=by omega)(U:c:=by omega)(W:d:=by omega):Obl (a/\b/\c/\d) k:=⟨⟨H,O,U,W⟩,h⟩
theorem zC{c:Prop}[Decidable c](H:c->p)(O:¬c->q):Tst (decide c) p q:=.dec H O
theorem zY{c:Prop}[Decidable c](h:c->p)(H:c:=by omega):Tst (decide c) p q:=.dec h λg=>absurd H g
theorem zN{c:Prop}[Decidable c](h:¬c->q)(H:¬c:=by omega):Tst (decide c) p q:=.dec (λg=>absurd g H) h
theorem zV{k:IntKind}{n:Int}{K:Int->Prop}(H:K n)(h:InR k n:=by exact⟨by omega,by omega⟩):Wit (λr=>k.wrap n=r) K:=⟨n,h.wrap,H⟩
theorem zX{n:Nat}{K:Nat->Prop}(H:K j)(h:j<n:=by omega):IdxV (j:Int) n K:=⟨j,rfl,h,H⟩
theorem zJ{i:Int}{n:Nat}(j:Nat){K:Nat->Prop}(H:K j)(e:i=(j:Int):=by rfl)(h:j<n:=by decide):IdxV i n K:=⟨j,e,h,H⟩
theorem zW{k:Prop}(h:k):SameW w w k:=⟨rfl,h⟩
theorem zD{A:Dj->Prop}{K:Option Di->Dj->Prop}{v:Di}(H:K (some v) (λu _=>u=v))(h:A (λu _=>u=v):=by(intro O U;(conv=>whnf);exact⟨Ext.refl _,rfl⟩)):StepD A K:=.still v h H
theorem zI{A K:Di->Prop}{v:Di}(H:K v)(h:A v:=by(intro S U H W O;(conv=>whnf);exact⟨rfl,O⟩)):StepI A K:=.of v h H
theorem zG{A K:Option Di->Prop}{v:Di}(H:K (some v))(h:A (some v):=by(intro S vals U H W O;(conv=>whnf);exact⟨rfl,O⟩)):StepG A K:=.of v h H
theorem zM{A K:Option Di->Prop}(H:K none)(h:A none:=by(intro S vals U H W O;(conv=>whnf);exact⟨trivial,O⟩)):StepG A K:=.any h H
theorem zO{A:Bool->Dj->Prop}{K:Option Di->Option Nat->Dj->Prop}{v:Di}(H:K (some v) none (λu _=>u=v))(h:A true (λu _=>u=v):=by(intro O U;(conv=>whnf);exact PostO.still (Ext.refl _) rfl)):StepO base A K:=.still v h H
theorem zT(h:p):Tst true p q:=.tt h
theorem zU(h:q):Tst false p q:=.ff h
theorem zP{b:Bool}(h:Tst b q p):Tst (!b) p q:=.not h
theorem zL{H:Nat}{t:Dg}{K:Dn->Prop}(h:Mem w0 w L)(i:Nat)(O:K cs.toList)(U:L[i]?=some (b,.cells cs t fr):=by exact rfl)(W:cs.toList.length=H:=by exact rfl):LoadA w b 0 H K:=.mem h U W O
theorem zR{t:Dg}{v:Di}{K:Di->Prop}(h:Mem w0 w L)(i:Nat)(H:K v)(O:L[i]?=some (b,.cells cs t fr):=by exact rfl)(U:cs[off]?=some v:=by exact rfl):LoadV w b off K:=.mem h O U H
theorem zE{n:Nat}{H:Func}{c:Code}(O:P.funcs[f]?=some H)(U:H.ntmps=n)(h:qgo P n c (q2d P n H R) (ini vs) w)(W:qcm P f=true:=by kernel_rfl)(Z:H.body=some c:=by exact rfl)(hl:Nat.ble vs.length n=true:=by exact rfl):Gv P f vs w R:=gv W O Z U hl h
theorem zS{t:Dg}{K:Dl}(h:Mem w0 w L)(i:Nat)(H:∀w',Mem w0 w' (L.set i (b,.cells vs.toArray t (0,0)))->K w')(O:L[i]?=some (b,.cells cur t (0,0)):=by exact rfl)(Z:cur.size=vs.length:=by exact rfl)(U:∀v∈vs,v.oneCell'=true:=by simp[Value.oneCell']):StoreA P w b 0 vs K:=by
 refine StoreA.mem h O Oo U λw' W=>H w' ?_;have e:(cur.toList.take 0++vs++cur.toList.drop (0+vs.length)).toArray=vs.toArray:=by
  rw[CD,Bt,AY Ys,By]
 rwa[e]at W
structure Hid(q:Prop):Prop where
 h:q
theorem zw(h:q)(e:p=q:=by conv=>lhs;whnf):p:=e.mpr h
theorem zv(h:q)(e:Hid q->p:=by
  intro h
  (repeat'(first|(refine Obl.mk ⟨by omega,by omega⟩ ?_;conv=>whnf)|(refine Obl.mk ⟨by omega,by omega,⟨by omega,by omega⟩⟩ ?_;conv=>whnf)|((with_reducible refine Tst.tt ?_);conv=>whnf)|((with_reducible refine Tst.ff ?_);conv=>whnf)|((with_reducible refine Tst.dec (λ_=>?_) (λ_=>?_))<;>first|(exfalso;omega)|(conv=>whnf))|((with_reducible refine Tst.not ?_))|(refine Wit.conv ⟨by omega,by omega⟩ ?_;conv=>whnf)|((with_reducible refine IdxV.nat Oo ?_);conv=>whnf)|((with_reducible refine SameW.mk rfl ?_);conv=>whnf)|((with_reducible refine Tst.beqT ?_))|((with_reducible refine Tst.beqF ?_))|(refine Tst.yes rfl ?_;conv=>whnf)|(refine Tst.no rfl ?_;conv=>whnf)))
  exact h.1):p:=e ⟨h⟩
theorem zu(h:q)(e:Hid q->p:=by
  intro h;conv=>whnf
  (repeat'(first|(refine Obl.mk ⟨by omega,by omega⟩ ?_;conv=>whnf)|(refine Obl.mk ⟨by omega,by omega,⟨by omega,by omega⟩⟩ ?_;conv=>whnf)|((with_reducible refine Tst.tt ?_);conv=>whnf)|((with_reducible refine Tst.ff ?_);conv=>whnf)|((with_reducible refine Tst.dec (λ_=>?_) (λ_=>?_))<;>first|(exfalso;omega)|(conv=>whnf))|((with_reducible refine Tst.not ?_))|(refine Wit.conv ⟨by omega,by omega⟩ ?_;conv=>whnf)|((with_reducible refine IdxV.nat Oo ?_);conv=>whnf)|((with_reducible refine SameW.mk rfl ?_);conv=>whnf)|((with_reducible refine Tst.beqT ?_))|((with_reducible refine Tst.beqF ?_))|(refine Tst.yes rfl ?_;conv=>whnf)|(refine Tst.no rfl ?_;conv=>whnf)))
  exact h.1):p:=e ⟨h⟩
theorem zt(h:q)(e:Hid q->p:=by
  intro h
  (repeat'(first|(refine Obl.mk ⟨by omega,by omega⟩ ?_;conv=>whnf)|(refine Obl.mk ⟨by omega,by omega,⟨by omega,by omega⟩⟩ ?_;conv=>whnf)|((with_reducible refine Tst.tt ?_);conv=>whnf)|((with_reducible refine Tst.ff ?_);conv=>whnf)|((with_reducible refine zY (λ_=>?_));conv=>whnf)|((with_reducible refine zN (λ_=>?_));conv=>whnf)|((with_reducible refine Tst.not ?_))|(refine Wit.conv ⟨by omega,by omega⟩ ?_;conv=>whnf)|((with_reducible refine IdxV.nat Oo ?_);conv=>whnf)|((with_reducible refine SameW.mk rfl ?_);conv=>whnf)|((with_reducible refine Tst.beqT ?_))|((with_reducible refine Tst.beqF ?_))|(refine Tst.yes rfl ?_;conv=>whnf)|(refine Tst.no rfl ?_;conv=>whnf)))
  exact h.1):p:=e ⟨h⟩
theorem zp(h:q)(e:Hid q->p:=by
  intro h
  (first|(refine Obl.mk ⟨by omega,by omega⟩ ?_;conv=>whnf)|(refine Obl.mk ⟨by omega,by omega,⟨by omega,by omega⟩⟩ ?_;conv=>whnf)|((with_reducible refine Tst.tt ?_);conv=>whnf)|((with_reducible refine Tst.ff ?_);conv=>whnf)|((with_reducible refine zY (λ_=>?_));conv=>whnf)|((with_reducible refine zN (λ_=>?_));conv=>whnf)|((with_reducible refine Tst.not ?_))|(refine Wit.conv ⟨by omega,by omega⟩ ?_;conv=>whnf)|((with_reducible refine IdxV.nat Oo ?_);conv=>whnf)|((with_reducible refine SameW.mk rfl ?_);conv=>whnf)|((with_reducible refine Tst.beqT ?_))|((with_reducible refine Tst.beqF ?_))|(refine Tst.yes rfl ?_;conv=>whnf)|(refine Tst.no rfl ?_;conv=>whnf))
  (repeat'(first|(refine Obl.mk ⟨by omega,by omega⟩ ?_;conv=>whnf)|(refine Obl.mk ⟨by omega,by omega,⟨by omega,by omega⟩⟩ ?_;conv=>whnf)|((with_reducible refine Tst.tt ?_);conv=>whnf)|((with_reducible refine Tst.ff ?_);conv=>whnf)|((with_reducible refine zY (λ_=>?_));conv=>whnf)|((with_reducible refine zN (λ_=>?_));conv=>whnf)|((with_reducible refine Tst.not ?_))|(refine Wit.conv ⟨by omega,by omega⟩ ?_;conv=>whnf)|((with_reducible refine IdxV.nat Oo ?_);conv=>whnf)|((with_reducible refine SameW.mk rfl ?_);conv=>whnf)|((with_reducible refine Tst.beqT ?_))|((with_reducible refine Tst.beqF ?_))|(refine Tst.yes rfl ?_;conv=>whnf)|(refine Tst.no rfl ?_;conv=>whnf)))
  exact h.1):p:=e ⟨h⟩
theorem zd{A:Dj->Prop}{K:Option Di->Dj->Prop}{v:Di}(H:q)(h:A (λu _=>u=v):=by
  intro O U;conv=>whnf
  (repeat(intro _ _;(conv=>whnf)))
  first
  | exact⟨Ext.refl _,rfl⟩
  | refine zv ?_;exact⟨Ext.refl _,rfl⟩)(e:K (some v) (λu _=>u=v)=q:=by conv=>lhs;whnf):StepD A K:=.still v h (e.mpr H)
theorem zo{A:Bool->Dj->Prop}{K:Option Di->Option Nat->Dj->Prop}{v:Di}(H:q)(h:A true (λu _=>u=v):=by
  intro O U;conv=>whnf
  (repeat(intro _;(conv=>whnf)))
  first
  | exact PostO.still (Ext.refl _) rfl
  | refine zv ?_;exact PostO.still (Ext.refl _) rfl)(e:K (some v) none (λu _=>u=v)=q:=by conv=>lhs;whnf):StepO base A K:=.still v h (e.mpr H)
theorem zi{A K:Di->Prop}{v:Di}(H:q)(h:A v:=by
  intro S U H W O;conv=>whnf
  first
  | exact⟨rfl,O⟩
  | refine zv ?_;exact⟨rfl,O⟩)(e:K v=q:=by conv=>lhs;whnf):StepI A K:=.of v h (e.mpr H)
theorem zg{A K:Option Di->Prop}{v:Di}(H:q)(h:A (some v):=by
  intro S vals U H W O;conv=>whnf
  first
  | exact⟨rfl,O⟩
  | refine zv ?_;exact⟨rfl,O⟩)(e:K (some v)=q:=by conv=>lhs;whnf):StepG A K:=.of v h (e.mpr H)
theorem zm{A K:Option Di->Prop}(H:q)(h:A none:=by
  intro S vals U H W O;conv=>whnf
  first
  | exact⟨trivial,O⟩
  | refine zv ?_;exact⟨trivial,O⟩)(e:K none=q:=by conv=>lhs;whnf):StepG A K:=.any h (e.mpr H)
theorem zLd{A:Dj->Prop}{K:Option Di->Dj->Prop}{v:Di}(O:q)(h:A (λu _=>u=v):=by
  intro W U;refine zu ?_;have H:=Mem.call (Mem.drew Oa) U
  first
  | (refine LoadA.mem H (i:=0) rfl rfl ?_;(conv=>whnf);exact⟨Ext.refl _,rfl⟩)
  | (refine LoadA.mem H (i:=1) rfl rfl ?_;(conv=>whnf);exact⟨Ext.refl _,rfl⟩)
  | (refine LoadA.mem H (i:=2) rfl rfl ?_;(conv=>whnf);exact⟨Ext.refl _,rfl⟩)
  | (refine LoadA.mem H (i:=3) rfl rfl ?_;(conv=>whnf);exact⟨Ext.refl _,rfl⟩)
  | (refine LoadA.mem H (i:=4) rfl rfl ?_;(conv=>whnf);exact⟨Ext.refl _,rfl⟩)
  | (refine LoadA.mem H (i:=5) rfl rfl ?_;(conv=>whnf);exact⟨Ext.refl _,rfl⟩)
  | (refine LoadV.mem H (i:=0) rfl rfl ?_;(conv=>whnf);exact⟨Ext.refl _,rfl⟩)
  | (refine LoadV.mem H (i:=1) rfl rfl ?_;(conv=>whnf);exact⟨Ext.refl _,rfl⟩)
  | (refine LoadV.mem H (i:=2) rfl rfl ?_;(conv=>whnf);exact⟨Ext.refl _,rfl⟩)
  | (refine LoadV.mem H (i:=3) rfl rfl ?_;(conv=>whnf);exact⟨Ext.refl _,rfl⟩)
  | (refine LoadV.mem H (i:=4) rfl rfl ?_;(conv=>whnf);exact⟨Ext.refl _,rfl⟩)
  | (refine LoadV.mem H (i:=5) rfl rfl ?_;(conv=>whnf);exact⟨Ext.refl _,rfl⟩))(e:K (some v) (λu _=>u=v)=q:=by conv=>lhs;whnf):StepD A K:=.still v h (e.mpr O)
theorem zLi{A K:Di->Prop}{v:Di}(O:q)(h:A v:=by
  intro S U O W H;conv=>whnf
  first
  | (refine LoadA.mem H (i:=0) rfl rfl ?_;(conv=>whnf);exact⟨rfl,H⟩)
  | (refine LoadA.mem H (i:=1) rfl rfl ?_;(conv=>whnf);exact⟨rfl,H⟩)
  | (refine LoadA.mem H (i:=2) rfl rfl ?_;(conv=>whnf);exact⟨rfl,H⟩)
  | (refine LoadA.mem H (i:=3) rfl rfl ?_;(conv=>whnf);exact⟨rfl,H⟩)
  | (refine LoadA.mem H (i:=4) rfl rfl ?_;(conv=>whnf);exact⟨rfl,H⟩)
  | (refine LoadA.mem H (i:=5) rfl rfl ?_;(conv=>whnf);exact⟨rfl,H⟩)
  | (refine LoadV.mem H (i:=0) rfl rfl ?_;(conv=>whnf);exact⟨rfl,H⟩)
  | (refine LoadV.mem H (i:=1) rfl rfl ?_;(conv=>whnf);exact⟨rfl,H⟩)
  | (refine LoadV.mem H (i:=2) rfl rfl ?_;(conv=>whnf);exact⟨rfl,H⟩)
  | (refine LoadV.mem H (i:=3) rfl rfl ?_;(conv=>whnf);exact⟨rfl,H⟩)
  | (refine LoadV.mem H (i:=4) rfl rfl ?_;(conv=>whnf);exact⟨rfl,H⟩)
  | (refine LoadV.mem H (i:=5) rfl rfl ?_;(conv=>whnf);exact⟨rfl,H⟩))(e:K v=q:=by conv=>lhs;whnf):StepI A K:=.of v h (e.mpr O)
theorem zLg{A K:Option Di->Prop}{v:Di}(O:q)(h:A (some v):=by
  intro S vals U O W H;conv=>whnf
  first
  | (refine LoadA.mem H.mem (i:=0) rfl rfl ?_;(conv=>whnf);exact⟨rfl,H⟩)
  | (refine LoadA.mem H.mem (i:=1) rfl rfl ?_;(conv=>whnf);exact⟨rfl,H⟩)
  | (refine LoadA.mem H.mem (i:=2) rfl rfl ?_;(conv=>whnf);exact⟨rfl,H⟩)
  | (refine LoadA.mem H.mem (i:=3) rfl rfl ?_;(conv=>whnf);exact⟨rfl,H⟩)
  | (refine LoadA.mem H.mem (i:=4) rfl rfl ?_;(conv=>whnf);exact⟨rfl,H⟩)
  | (refine LoadA.mem H.mem (i:=5) rfl rfl ?_;(conv=>whnf);exact⟨rfl,H⟩)
  | (refine LoadV.mem H.mem (i:=0) rfl rfl ?_;(conv=>whnf);exact⟨rfl,H⟩)
  | (refine LoadV.mem H.mem (i:=1) rfl rfl ?_;(conv=>whnf);exact⟨rfl,H⟩)
  | (refine LoadV.mem H.mem (i:=2) rfl rfl ?_;(conv=>whnf);exact⟨rfl,H⟩)
  | (refine LoadV.mem H.mem (i:=3) rfl rfl ?_;(conv=>whnf);exact⟨rfl,H⟩)
  | (refine LoadV.mem H.mem (i:=4) rfl rfl ?_;(conv=>whnf);exact⟨rfl,H⟩)
  | (refine LoadV.mem H.mem (i:=5) rfl rfl ?_;(conv=>whnf);exact⟨rfl,H⟩))(e:K (some v)=q:=by conv=>lhs;whnf):StepG A K:=.of v h (e.mpr O)
theorem zSi{A K:Di->Prop}(W:q)(h:A undef:=by
  intro S Z W hp O
  try dsimp only at O
  rw[W]at O;conv=>whnf
  first
  | (refine StoreA.all O (i:=0) rfl rfl (by simp[Value.oneCell']) λU H=>?_;(conv=>whnf);exact⟨rfl,H⟩)
  | (refine StoreA.all O (i:=1) rfl rfl (by simp[Value.oneCell']) λU H=>?_;(conv=>whnf);exact⟨rfl,H⟩)
  | (refine StoreA.all O (i:=2) rfl rfl (by simp[Value.oneCell']) λU H=>?_;(conv=>whnf);exact⟨rfl,H⟩)
  | (refine StoreA.all O (i:=3) rfl rfl (by simp[Value.oneCell']) λU H=>?_;(conv=>whnf);exact⟨rfl,H⟩)
  | (refine StoreA.all O (i:=4) rfl rfl (by simp[Value.oneCell']) λU H=>?_;(conv=>whnf);exact⟨rfl,H⟩)
  | (refine StoreA.all O (i:=5) rfl rfl (by simp[Value.oneCell']) λU H=>?_;(conv=>whnf);exact⟨rfl,H⟩))(e:K undef=q:=by conv=>lhs;whnf):StepI A K:=.of undef h (e.mpr W)
theorem zr{t:Dg}{v:Di}{K:Di->Prop}(h:Mem w0 w L)(i:Nat)(H:q)(O:L[i]?=some (b,.cells cs t fr):=by exact rfl)(U:cs[off]?=some v:=by exact rfl)(e:K v=q:=by conv=>lhs;whnf):LoadV w b off K:=.mem h O U (e.mpr H)
theorem zl{H:Nat}{t:Dg}{K:Dn->Prop}(h:Mem w0 w L)(i:Nat)(O:q)(U:L[i]?=some (b,.cells cs t fr):=by exact rfl)(W:cs.toList.length=H:=by exact rfl)(e:K cs.toList=q:=by conv=>lhs;whnf):LoadA w b 0 H K:=.mem h U W (e.mpr O)
theorem ze{n:Nat}{H:Func}{c:Code}(O:P.funcs[f]?=some H)(U:H.ntmps=n)(h:q)(W:qcm P f=true:=by kernel_rfl)(Z:H.body=some c:=by exact rfl)(hl:Nat.ble vs.length n=true:=by exact rfl)(e:qgo P n c (q2d P n H R) (ini vs) w=q:=by conv=>lhs;whnf):Gv P f vs w R:=gv W O Z U hl (e.mpr h)
theorem zy{n:Nat}{Q:Exit->Dk->Dl}(h:q)(O:P.follows .mixedOrders=true:=by kernel_rfl)(U:Region.lexB .any ops=true:=by kernel_rfl)(e:regQ P n ops.toList w.drew (λH=>Q .normal H w.drew) ops.toList ρ=q:=by conv=>lhs;whnf):DrawV P n id ops Q ρ w:=.quiet O U (e.mpr h)
theorem xr:Ext w w:=.refl w
theorem xq{α:Type}{v:α}:Ext w w/\v=v:=⟨xr,rfl⟩
theorem zf{A:Dj->Prop}{K:Option Di->Dj->Prop}{v:Di}(H:q)(h:A (λu _=>u=v))(e:K (some v) (λu _=>u=v)=q:=by conv=>lhs;whnf):StepD A K:=.still v h (e.mpr H)
theorem zcv(h:Gv P f args w R)(H:∀v w',R v w'->K v w'):CallV P f args w K:=.of h H
theorem zsd{A:Dj->Prop}{K:Option Di->Dj->Prop}(v:Di)(h:A (λu _=>u=v))(H:K (some v) (λu _=>u=v)):StepD A K:=.still v h H
theorem znm{o:Obj}{K:Nat->Dl}(h:Mem w0 w L)(H:∀b w',Mem w0 w' ((b,o)::L)->K b w'):NewV w o K:=.mem h H
end V
open Go.RowKit V
set_option maxRecDepth 100000
def qha(r:Int):Bool:=decide (0<=r/\r<=1114111/\(r<55296\/57343<r))
theorem qqt(r:Int)(b:Bool):b=qha r↔(b=true↔(0<=r/\r<=1114111/\(r<55296\/57343<r))):=by
 unfold qha;rw[Bh];simp
theorem qvq(r:Int)(w:Dd):
  Gv Dp 288 [.int .i32 r] w λv w'=>v=.bool (qha r)/\w'=w:=by
 refine ze Tryz.func288 Tryz.ntmps288 ?_
 (repeat'(first|refine zp ?_|refine zC (λ_=>zw ?_) (λ_=>zw ?_)))
 all_goals(refine⟨Ae Value.bool ((qqt r _).2 ?_),rfl⟩;simp;try omega)
def qe9(c:Nat):Nat×Nat:=
 if c<0x80 then(1,c)else if c<0xC0 then(0,0)else if c<0xE0 then(2,c%32)else if c<0xF0 then(3,c%16)else if c<0xF8 then(4,c%8)else(0,0)
theorem qsq(c:Nat)(_:c<256):(qe9 c).1<=4/\(qe9 c).2<128:=by
 unfold qe9;repeat(first|split|(refine⟨?_,?_⟩<;>dsimp only<;>omega))
theorem q3i(c:Dh)(w:Dd):
  Gv Dp 286 [.int .u8 c.toNat] w λv w'=>v=.tuple #[ii (qe9 c.toNat).1,.int .i32 (qe9 c.toNat).2]/\w'=w:=by
 refine ze Tryz.func286 Tryz.ntmps286 ?_
 (repeat'(first|refine zp ?_|refine zC (λ_=>zw ?_) (λ_=>zw ?_)))
 ·exact⟨by rw[qe9,Af Oo];rfl,rfl⟩
 ·exact⟨by rw[qe9,Ab Oo,Af Oo];rfl,rfl⟩
 ·refine Wit.eq (qbo 5 rfl ⟨by omega,by omega⟩ ⟨by omega,by omega⟩) (zu ?_);exact⟨by rw[qe9,Ab Oo,Ab Oo,Af Oo];rfl,rfl⟩
 ·refine Wit.eq (qbo 4 rfl ⟨by omega,by omega⟩ ⟨by omega,by omega⟩) (zu ?_);exact⟨by rw[qe9,Ab Oo,Ab Oo,Ab Oo,Af Oo];rfl,rfl⟩
 ·refine Wit.eq (qbo 3 rfl ⟨by omega,by omega⟩ ⟨by omega,by omega⟩) (zu ?_);exact⟨by rw[qe9,Ab Oo,Ab Oo,Ab Oo,Ab Oo,Af Oo];rfl,rfl⟩
 ·exact⟨by rw[qe9,Ab Oo,Ab Oo,Ab Oo,Ab Oo,Ab Oo];rfl,rfl⟩
def qsr(n:Nat):Nat:=if n=2 then 0x80 else if n=3 then 0x800 else if n=4 then 0x10000 else 0
theorem qyw(n:Nat)(h:n<=4)(w:Dd):
  Gv Dp 287 [ii n] w λv w'=>v=.int .i32 (qsr n)/\w'=w:=by
 refine ze Tryz.func287 Tryz.ntmps287 ?_;refine zv ?_;refine⟨.int .i32 (qsr n),?_,?_⟩
 ·obtain rfl|rfl|rfl|rfl|rfl:n=0\/n=1\/n=2\/n=3\/n=4:=by omega
  all_goals rfl
 ·(conv=>whnf);exact⟨rfl,rfl⟩
def accR(r:Nat)(l:LB):Nat:=l.foldl (λr c=>r*64+c.toNat%64) r
def cont(c:Dh):Bool:=c.toNat/64==2
def decN:LB->Nat×Nat
 | []=>(0,0)
 | b::t=>
  let n:=(qe9 b.toNat).1
  if n=0\/t.length<n-1 then(0,0)
  else if(t.take (n-1)).all cont then
   let r:=accR (qe9 b.toNat).2 (t.take (n-1))
   if r<qsr n\/qha r=false then(0,0)else(r,n)
  else(0,0)
theorem q62(r:Nat)(l:LB):accR r l<(r+1)*64 ^ l.length:=by
 induction l generalizing r with
 | nil=>simp[accR]
 | cons c l H=>
  have O:=H (r*64+c.toNat%64);have U:c.toNat%64<64:=Cb _ Oo;simp only[accR,List.foldl_cons,AH]at *;refine AE O ?_;rw[Da,BN (64 ^ _) 64,<-Nat.mul_assoc];exact Bd _ Oo
theorem q28(h:k<l.length):l.take (k+1)=l.take k++[l.getD k 0]:=by
 rw[Bf h,Ag,zge h,BY]
theorem qcy(s:De)(p:Nat)(h:p<s.size):s.data.toList.drop p=gb s p::s.data.toList.drop (p+1):=by
 have H:p<s.data.toList.length:=by simpa using h
 rw[Bp H,gb,Ag,zge H,BY]
theorem qxg(s:De)(p k:Nat):(s.data.toList.drop p).getD k 0=gb s (p+k):=by
 simp[gb]
theorem qib(s:De)(p:Nat):(s.data.toList.drop p).length=s.size-p:=by simp
theorem qaa0(m:Nat)(h:m<256):m &&&192=m/64*64:=by
 have:∀m:Fin 256,m.1 &&&192=m.1/64*64:=by decide +kernel
 exact this ⟨m,h⟩
theorem qs1(s:De)(p:Nat)(hp:p<s.size)(hs:s.size<=140737488355328)(w:Dd):
  Gv Dp 216 [.string s,ii p] w λv w'=>v=.tuple #[.int .i32 (decN (s.data.toList.drop p)).1,ii (decN (s.data.toList.drop p)).2]/\w'=w:=by
 obtain⟨t,ht⟩:∃t,t=s.data.toList.drop (p+1):=⟨_,rfl⟩
 obtain⟨n,hn⟩:∃n,n=(qe9 (gb s p).toNat).1:=⟨_,rfl⟩
 obtain⟨r,hr⟩:∃r,r=(qe9 (gb s p).toNat).2:=⟨_,rfl⟩
 have H:=q3i (gb s p) w;have hb:=qsq (gb s p).toNat (gb s p).toNat_lt;rw[<-hn,<-hr]at H hb;obtain⟨ab,ac⟩:=hb;have ae:t.length=s.size-(p+1):=by rw[ht,qib]
 have W:decN (s.data.toList.drop p)=if n=0\/t.length<n-1 then(0,0)else if(t.take (n-1)).all cont then
   (if accR r (t.take (n-1))<qsr n\/qha (accR r (t.take (n-1)))=false then(0,0)else(accR r (t.take (n-1)),n))else(0,0):=by
  rw[qcy s p hp,<-ht,hn,hr];rfl
 refine ze Tryz.func216 Tryz.ntmps216 ?_;refine zv ?_;refine zcv (H) ?_;rintro v w' ⟨rfl,rfl⟩;conv=>whnf
 (repeat'(first|refine zp ?_|refine zC (λ_=>zw ?_) (λ_=>zw ?_)))
 ·exact⟨by rw[W,Af Oo];rfl,rfl⟩
 ·exact⟨by rw[W,Af Oo];rfl,rfl⟩
 ·refine qn (λk:Nat=>[(0,.string s),(1,ii p),(6,ii n),(7,.int .i32 (accR r (t.take (k-1)))),(8,ii k)])
   (λk w1=>1<=k/\k<=n/\(t.take (k-1)).all cont=true/\w1=w') (λk=>n-k) 1 fq ⟨by omega,by omega,rfl,rfl⟩ ?_
  rintro k w1 af ⟨h1,h2,h3,rfl⟩;have O:=q62 r (t.take (k-1));have Z:(t.take (k-1)).length=k-1:=by rw[A4];omega
  rw[Z]at O;(conv=>whnf);refine zC (λ_=>zu ?_) (λ_=>zu ?_)
  ·refine IdxV.at_ (p+k) Oo Oo (zw ?_);have hc:(gb s (p+k)).toNat<256:=(gb s (p+k)).toNat_lt;have hg:t.getD (k-1) 0=gb s (p+k):=by rw[ht,qxg];congr 1;omega
   have U:t.take k=t.take (k-1)++[gb s (p+k)]:=by
    have:=q28 (l:=t) (k:=k-1) Oo;rw[hg,show k-1+1=k from by omega]at this;exact this
   have ad:accR r (t.take (k-1))<524288:=by
    refine AE O (A6 (Bz (Nat.succ_le_of_lt ac) (AQ Oo (show k-1<=2 by omega))) Od)
   refine Wit.eq (y:=(((gb s (p+k)).toNat/64*64:Nat):Int)) (by rw[<-qaa0 _ hc];exact qlf (n:=192) ⟨by omega,by omega⟩ ⟨by decide,by decide⟩) (zw ?_);refine zC (λ_=>zw ?_) (λ_=>zw ?_)
   ·refine⟨?_,rfl⟩;rw[W,Ab Oo,Ab ?_]
    ·rfl
    ·rw[CY];apply List.all_eq_false.2;refine⟨gb s (p+k),?_,?_⟩
     ·have:gb s (p+k)∈t.take k:=by rw[U];simp
      exact List.mem_of_mem_take (i:=k) (by rw[List.take_take,Bi Oo];exact this)
     ·simp[cont];omega
   ·refine Wit.shl ⟨by decide,by decide⟩ (m:=64) Od rfl ⟨by omega,by omega⟩ (zw ?_);refine Wit.eq (qbo 6 rfl ⟨by omega,by omega⟩ ⟨by omega,by omega⟩) (zu ?_);refine Wit.eq (y:=((accR r (t.take k):Nat):Int)) ?_ ?_
    ·have:=q2a (k:=.i32) (a:=accR r (t.take (k-1))) (b:=(gb s (p+k)).toNat%64) 6 ⟨by omega,by omega⟩ Oo;rw[U]
     simpa[accR]using this
    refine zu ?_;refine⟨k+1,fq,⟨by omega,by omega,?_,rfl⟩,by omega⟩;rw[show k+1-1=k from by omega,U,List.all_append,h3];simp[cont];omega
  ·obtain rfl:k=n:=by omega
   refine zcv (qyw k ab _) ?_;rintro v w' ⟨rfl,rfl⟩;(conv=>whnf);refine zC (λ_=>zu ?_) (λ_=>zu ?_)
   ·refine⟨?_,rfl⟩;rw[W,Ab Oo,Af h3,Af (.inl Oo)];rfl
   ·refine zcv (qvq _ _) ?_;rintro v w' ⟨rfl,rfl⟩;(conv=>whnf);cases aa:qha (accR r (t.take (k-1)))
    ·refine zu ?_;refine⟨?_,rfl⟩;rw[W,Ab Oo,Af h3,Af (.inr aa)];rfl
    ·refine zu ?_;refine⟨?_,rfl⟩;rw[W,Ab Oo,Af h3,Ab (by rw[aa];simp;omega)]
def scal(l:LB):Option Do:=
 match l with
 | []=>some []
 | b::t=>if _:(decN (b::t)).2=0 then none else(scal ((b::t).drop (decN (b::t)).2)).map ((decN (b::t)).1::·)
termination_by l.length
decreasing_by simp;omega
theorem qpp(l:LB):(decN l).2<=l.length:=by
 unfold decN
 split
 ·simp
 ·rename_i b t
  have:=qsq b.toNat b.toNat_lt;simp only
  split
  ·simp
  ·split
   ·split<;>simp;omega
   ·simp
theorem qop(h:l≠[])(H:(decN l).2=0):scal l=none:=by
 match l,h with
 | a::t,_=>rw[scal,dif_pos H]
theorem qjh(h:l≠[])(H:(decN l).2≠0):scal l=(scal (l.drop (decN l).2)).map ((decN l).1::·):=by
 match l,h with
 | a::t,_=>rw[scal,dif_neg H]
theorem qxh(s:De)(p:Nat)(h:p<s.size):s.data.toList.drop p≠[]:=by
 rw[qcy s p h];simp
theorem qng(s:De)(W:s.size<=140737488355328)(w:Dd):
  Gv Dp 140 [.string s] w λv w'=>(∃i:Int,v=ii i/\i<4611686018427387904/\(scal s.data.toList≠none->i=-1)/\(scal s.data.toList=none->0<=i))/\w'=w:=by
 refine ze Tryz.func140 Tryz.ntmps140 ?_;refine qn (λp:Nat=>[(0,.string s),(3,ii p)]) (λp U=>p<=s.size/\(scal s.data.toList=none↔scal (s.data.toList.drop p)=none)/\U=w) (λp=>s.size-p) 0 fq ⟨by omega,by simp,rfl⟩ ?_;rintro p U Z ⟨h1,H,rfl⟩;(conv=>whnf);refine zC (λ_=>zw ?_) (λ_=>zw ?_)
 ·refine zcv (qs1 s p Oo W _) ?_;rintro v w' ⟨rfl,rfl⟩;have O:=qpp (s.data.toList.drop p);rw[qib]at O;(conv=>whnf);refine zC (λ_=>zu ?_) (λ_=>zu ?_)
  ·refine⟨⟨p,rfl,by omega,λh=>?_,λ_=>by omega⟩,rfl⟩;exact absurd (H.2 (qop (qxh s p Oo) Oo)) h
  ·refine⟨p+(decN (s.data.toList.drop p)).2,fq,⟨by omega,?_,rfl⟩,by omega⟩;rw[H,qjh (qxh s p Oo) Oo,Ax];simp
 ·refine⟨⟨-1,rfl,by omega,λ_=>rfl,λh=>?_⟩,rfl⟩;rw[H,AY Ys]at h;rw[scal]at h;cases h
end Go.Proofs.YtccmcfpmknpccaaGreatDoor
namespace Go.Proofs
open YtccmcfpmknpccaaGreatDoor YtccmcfpmknpccaaGreatDoor.V
open Go.Shelf
def Tryz.lays169_ren:Go.Shelf.Ren:=⟨fun|169=>369|n=>n,fun|70=>470|9=>9|0=>0|72=>472|37=>32|127=>484|3=>3|5=>5|n=>n,fun|n=>n⟩
theorem Tryz.lays169:Go.Proofs.Lays.n169 Dp Tryz.lays169_ren:={
 mixed:=by kernel_rfl
 f169:=Tryz.func369.trans (Ae some Jk)
 t0:=Tryz.underlying0
 a0:=Tryz.isAgg0
 z0:=Tryz.sizeOf0
 v0:=Tryz.zeroValue0
 t3:=Tryz.underlying3
 a3:=Tryz.isAgg3
 z3:=Tryz.sizeOf3
 v3:=Tryz.zeroValue3
 t9:=Tryz.underlying9
 a9:=Tryz.isAgg9
 z9:=Tryz.sizeOf9
 v9:=Tryz.zeroValue9
 t37:=Tryz.underlying32
 a37:=Tryz.isAgg32
 z37:=Tryz.sizeOf32
 v37:=Tryz.zeroValue32
 t70:=Tryz.underlying470
 a70:=Tryz.isAgg470
 z70:=Tryz.sizeOf470
 v70:=Tryz.zeroValue470
 t72:=Tryz.underlying472
 a72:=Tryz.isAgg472
 z72:=Tryz.sizeOf472
 v72:=Tryz.zeroValue472
 t127:=Tryz.underlying484
 a127:=Tryz.isAgg484
 z127:=Tryz.sizeOf484
 v127:=Tryz.zeroValue484 }
theorem Tryz.Builder_Extra_169:Builder.Extra Dp Tryz.lays169_ren:={
 sizeBuilder:=by kernel_rfl
 liesBuilder:=by kernel_rfl
 t5:=Tryz.underlying5
 a5:=Tryz.isAgg5
 z5:=Tryz.sizeOf5
 v5:=Tryz.zeroValue5
 infoByte:=by kernel_rfl
 cellsByte:=by kernel_rfl
 sizeByte:=by kernel_rfl
 neB5:=by decide }
open Go.RowKit in
theorem Tryz.Builder_String_any(B b:Nat)(l:LB)(w:Dd)(h:Lib.IsBuilder 472 5 B b (Lib.byteCells l) w)(H:B<=w.heap.size):
  Calls Dp 369 #[pp b] w λe w'=>e=.returned (.string ⟨l.toArray⟩)/\Below B w w':=Any.Builder_String_any Tryz.lays169 Tryz.Builder_Extra_169 B b l w h H
def Tryz.lays165_ren:Go.Shelf.Ren:=⟨fun|165=>366|240=>385|241=>386|276=>392|277=>393|n=>n,fun|70=>470|3=>3|0=>0|4=>4|9=>9|20=>20|72=>472|37=>32|164=>207|5=>5|n=>n,fun|n=>n⟩
theorem Tryz.lays165:Go.Proofs.Lays.n165 Dp Tryz.lays165_ren:={
 mixed:=by kernel_rfl
 f165:=Tryz.func366.trans (Ae some Jk)
 f240:=Tryz.func385.trans (Ae some Jk)
 f241:=Tryz.func386.trans (Ae some Jk)
 f276:=Tryz.func392.trans (Ae some Jk)
 f277:=Tryz.func393.trans (Ae some Jk)
 t0:=Tryz.underlying0
 a0:=Tryz.isAgg0
 z0:=Tryz.sizeOf0
 v0:=Tryz.zeroValue0
 t3:=Tryz.underlying3
 a3:=Tryz.isAgg3
 z3:=Tryz.sizeOf3
 v3:=Tryz.zeroValue3
 t4:=Tryz.underlying4
 a4:=Tryz.isAgg4
 z4:=Tryz.sizeOf4
 v4:=Tryz.zeroValue4
 t9:=Tryz.underlying9
 a9:=Tryz.isAgg9
 z9:=Tryz.sizeOf9
 v9:=Tryz.zeroValue9
 t20:=Tryz.underlying20
 a20:=Tryz.isAgg20
 z20:=Tryz.sizeOf20
 v20:=Tryz.zeroValue20
 t37:=Tryz.underlying32
 a37:=Tryz.isAgg32
 z37:=Tryz.sizeOf32
 v37:=Tryz.zeroValue32
 t70:=Tryz.underlying470
 a70:=Tryz.isAgg470
 z70:=Tryz.sizeOf470
 v70:=Tryz.zeroValue470
 t72:=Tryz.underlying472
 a72:=Tryz.isAgg472
 z72:=Tryz.sizeOf472
 v72:=Tryz.zeroValue472
 t164:=Tryz.underlying207
 a164:=Tryz.isAgg207
 z164:=Tryz.sizeOf207
 v164:=Tryz.zeroValue207 }
theorem Tryz.Builder_Extra_165:Builder.Extra Dp Tryz.lays165_ren:={
 sizeBuilder:=by kernel_rfl
 liesBuilder:=by kernel_rfl
 t5:=Tryz.underlying5
 a5:=Tryz.isAgg5
 z5:=Tryz.sizeOf5
 v5:=Tryz.zeroValue5
 infoByte:=by kernel_rfl
 cellsByte:=by kernel_rfl
 sizeByte:=by kernel_rfl
 neB5:=by decide }
open Go.RowKit in
theorem Tryz.Builder_Grow_fresh(B b n:Nat)(w:Dd)(U:B<=b)(H:w.heap[b]?=some (.cells #[.pointer none,.slice none 0 0] 472))(O:B<=w.heap.size)(W:n<=281474976710656):
  Calls Dp 366 #[pp b,ii n] w λe w'=>e=.returned (.tuple #[])/\(Lib.BuilderAt 472 5 B b (pp b) [] w'/\Below B w w'):=Any.Builder_Grow_fresh Tryz.lays165 Tryz.Builder_Extra_165 B b n w U H O W
def Tryz.lays119_ren:Go.Shelf.Ren:=⟨fun|119=>373|n=>n,fun|21=>21|4=>4|n=>n,fun|n=>n⟩
theorem Tryz.lays119:Go.Proofs.Lays.n119 Dp Tryz.lays119_ren:={
 mixed:=by kernel_rfl
 f119:=Tryz.func373.trans (Ae some Jk)
 t4:=Tryz.underlying4
 a4:=Tryz.isAgg4
 z4:=Tryz.sizeOf4
 v4:=Tryz.zeroValue4
 t21:=Tryz.underlying21
 a21:=Tryz.isAgg21
 z21:=Tryz.sizeOf21
 v21:=Tryz.zeroValue21 }
theorem Tryz.utf8_ValidRune(r:Int)(w:Dd):
  Calls Dp 373 #[.int .i32 r] w λe w'=>e=.returned (.bool (Lib.validRune r))/\w'=w:=Any.utf8_ValidRune Tryz.lays119 r w
def Tryz.lays213_ren:Go.Shelf.Ren:=⟨fun|213=>125|265=>205|n=>n,fun|9=>9|3=>3|n=>n,fun|n=>n⟩
def Tryz.lays106_ren:Go.Shelf.Ren:=⟨fun|106=>60|213=>125|265=>205|n=>n,fun|9=>9|3=>3|n=>n,fun|n=>n⟩
theorem Tryz.lays106:Go.Proofs.Lays.n106 Dp Tryz.lays106_ren:={
 mixed:=by kernel_rfl
 f106:=Tryz.func60.trans (Ae some Jk)
 f213:=Tryz.func125.trans (Ae some Jk)
 f265:=Tryz.func205.trans (Ae some Jk)
 t3:=Tryz.underlying3
 a3:=Tryz.isAgg3
 z3:=Tryz.sizeOf3
 v3:=Tryz.zeroValue3
 t9:=Tryz.underlying9
 a9:=Tryz.isAgg9
 z9:=Tryz.sizeOf9
 v9:=Tryz.zeroValue9 }
open Go.RowKit in
theorem Tryz.strings_Compare(a b:De)(w:Dd):
  Calls Dp 60 #[.string a,.string b] w λe w'=>e=.returned (ii (Lib.compareBytes a.data.toList b.data.toList))/\w'=w:=Any.strings_Compare Tryz.lays106 a b w
def Tryz.lays137_ren:Go.Shelf.Ren:=⟨fun|137=>372|217=>388|266=>394|n=>n,fun|9=>9|5=>5|3=>3|n=>n,fun|n=>n⟩
theorem Tryz.lays137:Go.Proofs.Lays.n137 Dp Tryz.lays137_ren:={
 mixed:=by kernel_rfl
 f137:=Tryz.func372.trans (Ae some Jk)
 f217:=Tryz.func388.trans (Ae some Jk)
 f266:=Tryz.func394.trans (Ae some Jk)
 t3:=Tryz.underlying3
 a3:=Tryz.isAgg3
 z3:=Tryz.sizeOf3
 v3:=Tryz.zeroValue3
 t5:=Tryz.underlying5
 a5:=Tryz.isAgg5
 z5:=Tryz.sizeOf5
 v5:=Tryz.zeroValue5
 t9:=Tryz.underlying9
 a9:=Tryz.isAgg9
 z9:=Tryz.sizeOf9
 v9:=Tryz.zeroValue9 }
open Go.RowKit in
theorem Tryz.strings_IndexByte(s:De)(c:Int)(w:Dd):
  Calls Dp 372 #[.string s,.int .u8 c] w λe w'=>e=.returned (ii (Lib.indexByte s.data.toList c.toNat.toUInt8))/\w'=w:=Any.strings_IndexByte Tryz.lays137 s c w
def Tryz.lays129_ren:Go.Shelf.Ren:=⟨fun|129=>259|n=>n,fun|53=>164|3=>3|4=>4|46=>272|5=>5|9=>9|n=>n,fun|n=>n⟩
theorem Tryz.lays129:Go.Proofs.Lays.n129 Dp Tryz.lays129_ren:={
 mixed:=by kernel_rfl
 f129:=Tryz.func259.trans (Ae some Jk)
 t3:=Tryz.underlying3
 a3:=Tryz.isAgg3
 z3:=Tryz.sizeOf3
 v3:=Tryz.zeroValue3
 t4:=Tryz.underlying4
 a4:=Tryz.isAgg4
 z4:=Tryz.sizeOf4
 v4:=Tryz.zeroValue4
 t5:=Tryz.underlying5
 a5:=Tryz.isAgg5
 z5:=Tryz.sizeOf5
 v5:=Tryz.zeroValue5
 t9:=Tryz.underlying9
 a9:=Tryz.isAgg9
 z9:=Tryz.sizeOf9
 v9:=Tryz.zeroValue9
 t46:=Tryz.underlying272
 a46:=Tryz.isAgg272
 z46:=Tryz.sizeOf272
 v46:=Tryz.zeroValue272
 t53:=Tryz.underlying164
 a53:=Tryz.isAgg164
 z53:=Tryz.sizeOf164
 v53:=Tryz.zeroValue164 }
theorem Tryz.bits_Len64(x:Int)(w:Dd)(H:0<=x)(O:x<=18446744073709551615):
  Calls Dp 259 #[.int .u64 x] w λe w'=>e=.returned (ii (Lib.bitLen x.toNat))/\w'=w:=Any.bits_Len64 Tryz.lays129 x w H O
def Tryz.lays219_ren:Go.Shelf.Ren:=⟨fun|219=>378|217=>388|225=>375|224=>374|267=>389|266=>394|314=>395|n=>n,fun|9=>9|3=>3|4=>4|5=>5|46=>272|146=>491|51=>179|n=>n,fun|1=>1|n=>n⟩
def Tryz.lays143_ren:Go.Shelf.Ren:=⟨fun|143=>341|219=>378|217=>388|225=>375|224=>374|267=>389|266=>394|314=>395|n=>n,fun|9=>9|3=>3|4=>4|5=>5|46=>272|146=>491|51=>179|n=>n,fun|1=>1|n=>n⟩
theorem Tryz.lays143:Go.Proofs.Lays.n143 Dp Tryz.lays143_ren:={
 mixed:=by kernel_rfl
 f143:=Tryz.func341.trans (Ae some Jk)
 f217:=Tryz.func388.trans (Ae some Jk)
 f219:=Tryz.func378.trans (Ae some Jk)
 f224:=Tryz.func374.trans (Ae some Jk)
 f225:=Tryz.func375.trans (Ae some Jk)
 f266:=Tryz.func394.trans (Ae some Jk)
 f267:=Tryz.func389.trans (Ae some Jk)
 f314:=Tryz.func395.trans (Ae some Jk)
 t3:=Tryz.underlying3
 a3:=Tryz.isAgg3
 z3:=Tryz.sizeOf3
 v3:=Tryz.zeroValue3
 t4:=Tryz.underlying4
 a4:=Tryz.isAgg4
 z4:=Tryz.sizeOf4
 v4:=Tryz.zeroValue4
 t5:=Tryz.underlying5
 a5:=Tryz.isAgg5
 z5:=Tryz.sizeOf5
 v5:=Tryz.zeroValue5
 t9:=Tryz.underlying9
 a9:=Tryz.isAgg9
 z9:=Tryz.sizeOf9
 v9:=Tryz.zeroValue9
 t46:=Tryz.underlying272
 a46:=Tryz.isAgg272
 z46:=Tryz.sizeOf272
 v46:=Tryz.zeroValue272
 t51:=Tryz.underlying179
 a51:=Tryz.isAgg179
 z51:=Tryz.sizeOf179
 v51:=Tryz.zeroValue179
 t146:=Tryz.underlying491
 a146:=Tryz.isAgg491
 z146:=Tryz.sizeOf491
 v146:=Tryz.zeroValue491
 g1:=by kernel_rfl }
open Go.RowKit Go.Lib in
theorem Tryz.strings_Index(s sub:De)(m:Int)(w:Dd)(H:s.size<4294967281)(O:w.cell? ⟨1,0,none⟩=some (ii m)):
  Calls Dp 341 #[.string s,.string sub] w λe w'=>e=.returned (ii (Lib.index s.data.toList sub.data.toList))/\w'=w:=Any.strings_Index Tryz.lays143 s sub m w H O
def Tryz.lays145_ren:Go.Shelf.Ren:=⟨fun|145=>344|220=>379|219=>378|217=>388|225=>375|224=>374|267=>389|266=>394|314=>395|n=>n,fun|9=>9|4=>4|59=>388|3=>3|5=>5|46=>272|146=>491|51=>179|n=>n,fun|1=>1|n=>n⟩
theorem Tryz.lays145:Go.Proofs.Lays.n145 Dp Tryz.lays145_ren:={
 mixed:=by kernel_rfl
 f145:=Tryz.func344.trans (Ae some Jk)
 f217:=Tryz.func388.trans (Ae some Jk)
 f219:=Tryz.func378.trans (Ae some Jk)
 f220:=Tryz.func379.trans (Ae some Jk)
 f224:=Tryz.func374.trans (Ae some Jk)
 f225:=Tryz.func375.trans (Ae some Jk)
 f266:=Tryz.func394.trans (Ae some Jk)
 f267:=Tryz.func389.trans (Ae some Jk)
 f314:=Tryz.func395.trans (Ae some Jk)
 t3:=Tryz.underlying3
 a3:=Tryz.isAgg3
 z3:=Tryz.sizeOf3
 v3:=Tryz.zeroValue3
 t4:=Tryz.underlying4
 a4:=Tryz.isAgg4
 z4:=Tryz.sizeOf4
 v4:=Tryz.zeroValue4
 t5:=Tryz.underlying5
 a5:=Tryz.isAgg5
 z5:=Tryz.sizeOf5
 v5:=Tryz.zeroValue5
 t9:=Tryz.underlying9
 a9:=Tryz.isAgg9
 z9:=Tryz.sizeOf9
 v9:=Tryz.zeroValue9
 t46:=Tryz.underlying272
 a46:=Tryz.isAgg272
 z46:=Tryz.sizeOf272
 v46:=Tryz.zeroValue272
 t51:=Tryz.underlying179
 a51:=Tryz.isAgg179
 z51:=Tryz.sizeOf179
 v51:=Tryz.zeroValue179
 t59:=Tryz.underlying388
 a59:=Tryz.isAgg388
 z59:=Tryz.sizeOf388
 v59:=Tryz.zeroValue388
 t146:=Tryz.underlying491
 a146:=Tryz.isAgg491
 z146:=Tryz.sizeOf491
 v146:=Tryz.zeroValue491
 g1:=by kernel_rfl }
open Go.RowKit Go.Lib in
theorem Tryz.strings_Cut(s H:De)(m:Int)(w:Dd)(O:s.size<4294967281)(U:w.cell? ⟨1,0,none⟩=some (ii m)):
  Calls Dp 344 #[.string s,.string H] w λe w'=>e=.returned (.tuple #[.string ⟨(Lib.cut s.data.toList H.data.toList).1.toArray⟩,.string ⟨(Lib.cut s.data.toList H.data.toList).2.1.toArray⟩,.bool (Lib.cut s.data.toList H.data.toList).2.2])/\∃n,w'=w.drewN n:=Any.strings_Cut Tryz.lays145 s H m w O U
def Tryz.lays138_ren:Go.Shelf.Ren:=⟨fun|138=>340|195=>376|218=>377|143=>341|219=>378|217=>388|225=>375|224=>374|267=>389|266=>394|314=>395|n=>n,fun|9=>9|3=>3|4=>4|5=>5|0=>0|46=>272|146=>491|51=>179|n=>n,fun|1=>1|n=>n⟩
theorem Tryz.lays138:Go.Proofs.Lays.n138 Dp Tryz.lays138_ren:={
 mixed:=by kernel_rfl
 f138:=Tryz.func340.trans (Ae some Jk)
 f143:=Tryz.func341.trans (Ae some Jk)
 f195:=Tryz.func376.trans (Ae some Jk)
 f217:=Tryz.func388.trans (Ae some Jk)
 f218:=Tryz.func377.trans (Ae some Jk)
 f219:=Tryz.func378.trans (Ae some Jk)
 f224:=Tryz.func374.trans (Ae some Jk)
 f225:=Tryz.func375.trans (Ae some Jk)
 f266:=Tryz.func394.trans (Ae some Jk)
 f267:=Tryz.func389.trans (Ae some Jk)
 f314:=Tryz.func395.trans (Ae some Jk)
 t0:=Tryz.underlying0
 a0:=Tryz.isAgg0
 z0:=Tryz.sizeOf0
 v0:=Tryz.zeroValue0
 t3:=Tryz.underlying3
 a3:=Tryz.isAgg3
 z3:=Tryz.sizeOf3
 v3:=Tryz.zeroValue3
 t4:=Tryz.underlying4
 a4:=Tryz.isAgg4
 z4:=Tryz.sizeOf4
 v4:=Tryz.zeroValue4
 t5:=Tryz.underlying5
 a5:=Tryz.isAgg5
 z5:=Tryz.sizeOf5
 v5:=Tryz.zeroValue5
 t9:=Tryz.underlying9
 a9:=Tryz.isAgg9
 z9:=Tryz.sizeOf9
 v9:=Tryz.zeroValue9
 t46:=Tryz.underlying272
 a46:=Tryz.isAgg272
 z46:=Tryz.sizeOf272
 v46:=Tryz.zeroValue272
 t51:=Tryz.underlying179
 a51:=Tryz.isAgg179
 z51:=Tryz.sizeOf179
 v51:=Tryz.zeroValue179
 t146:=Tryz.underlying491
 a146:=Tryz.isAgg491
 z146:=Tryz.sizeOf491
 v146:=Tryz.zeroValue491
 g1:=by kernel_rfl }
open Go.RowKit Go.Lib in
theorem Tryz.strings_Count_any(s H:De)(m:Int)(w:Dd)(O:s.size<4294967281)(U:w.cell? ⟨1,0,none⟩=some (ii m))(W:1<=H.size):
  Calls Dp 340 #[.string s,.string H] w λe w'=>e=.returned (ii (Lib.countB s H))/\w'=w:=Any.strings_Count_any Tryz.lays138 s H m w O U W
def Tryz.lays221_ren:Go.Shelf.Ren:=⟨fun|221=>289|268=>339|138=>340|143=>341|195=>376|197=>368|218=>377|219=>378|260=>387|217=>388|225=>375|224=>374|267=>389|266=>394|314=>395|n=>n,fun|9=>9|3=>3|31=>159|4=>4|0=>0|105=>353|21=>21|5=>5|46=>272|119=>487|139=>490|138=>489|146=>491|51=>179|n=>n,fun|1=>1|3=>5|4=>6|n=>n⟩
def Tryz.lays146_ren:Go.Shelf.Ren:=⟨fun|146=>217|221=>289|268=>339|138=>340|143=>341|195=>376|197=>368|218=>377|219=>378|260=>387|217=>388|225=>375|224=>374|267=>389|266=>394|314=>395|n=>n,fun|9=>9|31=>159|3=>3|4=>4|0=>0|105=>353|21=>21|5=>5|46=>272|119=>487|139=>490|138=>489|146=>491|51=>179|n=>n,fun|1=>1|3=>5|4=>6|n=>n⟩
theorem Tryz.lays146:Go.Proofs.Lays.n146 Dp Tryz.lays146_ren:={
 mixed:=by kernel_rfl
 f138:=Tryz.func340.trans (Ae some Jk)
 f143:=Tryz.func341.trans (Ae some Jk)
 f146:=Tryz.func217.trans (Ae some Jk)
 f195:=Tryz.func376.trans (Ae some Jk)
 f197:=Tryz.func368.trans (Ae some Jk)
 f217:=Tryz.func388.trans (Ae some Jk)
 f218:=Tryz.func377.trans (Ae some Jk)
 f219:=Tryz.func378.trans (Ae some Jk)
 f221:=Tryz.func289.trans (Ae some Jk)
 f224:=Tryz.func374.trans (Ae some Jk)
 f225:=Tryz.func375.trans (Ae some Jk)
 f260:=Tryz.func387.trans (Ae some Jk)
 f266:=Tryz.func394.trans (Ae some Jk)
 f267:=Tryz.func389.trans (Ae some Jk)
 f268:=Tryz.func339.trans (Ae some Jk)
 f314:=Tryz.func395.trans (Ae some Jk)
 t0:=Tryz.underlying0
 a0:=Tryz.isAgg0
 z0:=Tryz.sizeOf0
 v0:=Tryz.zeroValue0
 t3:=Tryz.underlying3
 a3:=Tryz.isAgg3
 z3:=Tryz.sizeOf3
 v3:=Tryz.zeroValue3
 t4:=Tryz.underlying4
 a4:=Tryz.isAgg4
 z4:=Tryz.sizeOf4
 v4:=Tryz.zeroValue4
 t5:=Tryz.underlying5
 a5:=Tryz.isAgg5
 z5:=Tryz.sizeOf5
 v5:=Tryz.zeroValue5
 t9:=Tryz.underlying9
 a9:=Tryz.isAgg9
 z9:=Tryz.sizeOf9
 v9:=Tryz.zeroValue9
 t21:=Tryz.underlying21
 a21:=Tryz.isAgg21
 z21:=Tryz.sizeOf21
 v21:=Tryz.zeroValue21
 t31:=Tryz.underlying159
 a31:=Tryz.isAgg159
 z31:=Tryz.sizeOf159
 v31:=Tryz.zeroValue159
 t46:=Tryz.underlying272
 a46:=Tryz.isAgg272
 z46:=Tryz.sizeOf272
 v46:=Tryz.zeroValue272
 t51:=Tryz.underlying179
 a51:=Tryz.isAgg179
 z51:=Tryz.sizeOf179
 v51:=Tryz.zeroValue179
 t105:=Tryz.underlying353
 a105:=Tryz.isAgg353
 z105:=Tryz.sizeOf353
 v105:=Tryz.zeroValue353
 t119:=Tryz.underlying487
 a119:=Tryz.isAgg487
 z119:=Tryz.sizeOf487
 t138:=Tryz.underlying489
 a138:=Tryz.isAgg489
 z138:=Tryz.sizeOf489
 v138:=Tryz.zeroValue489
 t139:=Tryz.underlying490
 a139:=Tryz.isAgg490
 z139:=Tryz.sizeOf490
 v139:=Tryz.zeroValue490
 t146:=Tryz.underlying491
 a146:=Tryz.isAgg491
 z146:=Tryz.sizeOf491
 v146:=Tryz.zeroValue491
 g1:=by kernel_rfl
 g3:=by kernel_rfl
 g4:=by kernel_rfl }
open Go.RowKit Go.Lib in
theorem Tryz.strings_Split(s H:De)(m:Int)(w:Dd)(O:s.size<4294967281)(U:w.cell? ⟨1,0,none⟩=some (ii m))(W:1<=H.size):
  Calls Dp 217 #[.string s,.string H] w λe w'=>
   e=.returned (.slice (some ⟨w.heap.size,0,none⟩) (Lib.countB s H+1) (Lib.countB s H+1))/\w'=w.alloc (.cells ((Lib.splitB H 0 (Lib.countB s H) s).map Value.string).toArray 9):=Any.strings_Split Tryz.lays146 Jk s H m w O U W
def Tryz.lays151_ren:Go.Shelf.Ren:=⟨fun|151=>282|152=>337|137=>372|119=>373|224=>374|225=>375|217=>388|266=>394|n=>n,fun|9=>9|21=>21|4=>4|3=>3|5=>5|0=>0|46=>272|n=>n,fun|n=>n⟩
theorem Tryz.lays151:Go.Proofs.Lays.n151 Dp Tryz.lays151_ren:={
 mixed:=by kernel_rfl
 f119:=Tryz.func373.trans (Ae some Jk)
 f137:=Tryz.func372.trans (Ae some Jk)
 f151:=Tryz.func282.trans (Ae some Jk)
 f152:=Tryz.func337.trans (Ae some Jk)
 f217:=Tryz.func388.trans (Ae some Jk)
 f224:=Tryz.func374.trans (Ae some Jk)
 f225:=Tryz.func375.trans (Ae some Jk)
 f266:=Tryz.func394.trans (Ae some Jk)
 t0:=Tryz.underlying0
 a0:=Tryz.isAgg0
 z0:=Tryz.sizeOf0
 v0:=Tryz.zeroValue0
 t3:=Tryz.underlying3
 a3:=Tryz.isAgg3
 z3:=Tryz.sizeOf3
 v3:=Tryz.zeroValue3
 t4:=Tryz.underlying4
 a4:=Tryz.isAgg4
 z4:=Tryz.sizeOf4
 v4:=Tryz.zeroValue4
 t5:=Tryz.underlying5
 a5:=Tryz.isAgg5
 z5:=Tryz.sizeOf5
 v5:=Tryz.zeroValue5
 t9:=Tryz.underlying9
 a9:=Tryz.isAgg9
 z9:=Tryz.sizeOf9
 v9:=Tryz.zeroValue9
 t21:=Tryz.underlying21
 a21:=Tryz.isAgg21
 z21:=Tryz.sizeOf21
 v21:=Tryz.zeroValue21
 t46:=Tryz.underlying272
 a46:=Tryz.isAgg272
 z46:=Tryz.sizeOf272
 v46:=Tryz.zeroValue272 }
open Go.RowKit Go.Lib in
theorem Tryz.strings_ContainsRune_ascii(s:De)(r:Int)(w:Dd)(H:0<=r)(O:r<128):
  Calls Dp 282 #[.string s,.int .i32 r] w λe w'=>e=.returned (.bool (decide (0<=Lib.indexByte s.data.toList r.toNat.toUInt8)))/\w'=w:=Any.strings_ContainsRune_ascii Tryz.lays151 s r w H O
def Tryz.lays110_ren:Go.Shelf.Ren:=⟨fun|110=>296|109=>343|n=>n,fun|31=>159|9=>9|4=>4|3=>3|0=>0|n=>n,fun|n=>n⟩
theorem Tryz.lays110:Go.Proofs.Lays.n110 Dp Tryz.lays110_ren:={
 mixed:=by kernel_rfl
 f109:=Tryz.func343.trans (Ae some Jk)
 f110:=Tryz.func296.trans (Ae some Jk)
 t0:=Tryz.underlying0
 a0:=Tryz.isAgg0
 z0:=Tryz.sizeOf0
 v0:=Tryz.zeroValue0
 t3:=Tryz.underlying3
 a3:=Tryz.isAgg3
 z3:=Tryz.sizeOf3
 v3:=Tryz.zeroValue3
 t4:=Tryz.underlying4
 a4:=Tryz.isAgg4
 z4:=Tryz.sizeOf4
 v4:=Tryz.zeroValue4
 t9:=Tryz.underlying9
 a9:=Tryz.isAgg9
 z9:=Tryz.sizeOf9
 v9:=Tryz.zeroValue9
 t31:=Tryz.underlying159
 a31:=Tryz.isAgg159
 z31:=Tryz.sizeOf159
 v31:=Tryz.zeroValue159 }
open Go.Lib in
theorem Tryz.slices_Contains_string(b off n c:Nat)(H:List De)(x:De)(w:Dd)(U:n<=H.length)(O:n<=9223372036854775807)(W:∀j,j<H.length->w.cell? ⟨b,off+j,none⟩=some (.string (H.getD j ByteArray.empty))):
  Calls Dp 296 #[.slice (some ⟨b,off,none⟩) n c,.string x] w λe w'=>e=.returned (.bool (Lib.containsS (H.take n) x))/\w'=w:=Any.slices_Contains_string Tryz.lays110 b off n c H x w U O W
open Go.Lib in
theorem Tryz.slices_Contains_string_empty(a:oA)(c:Nat)(x:De)(w:Dd):
  Calls Dp 296 #[.slice a 0 c,.string x] w λe w'=>e=.returned (.bool false)/\w'=w:=Any.slices_Contains_string_empty Tryz.lays110 a c x w
end Go.Proofs
