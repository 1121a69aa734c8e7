/- Lemmas and contracts of functions on the way to the law's card (part 4 of 20). -/
import Derived.Test.YtccmcfpmknpccaaGreatDoorSA3
import Derived.Lib.SplitLaws
namespace Go.Proofs.YtccmcfpmknpccaaGreatDoor
open Go.RowKit V
set_option maxRecDepth 100000
variable {b c d g hi i id lo nb off rb:Nat} {A:oA} {P:DW} {w w' w0:DU} {L L':Ed} {e ty:DX} {x z:DZ} {vs xs:Ee} {K:Ea} {O:Ef} {o':Obj} {R':List (Ee×DZ)} {ops:Array Oper} {o:Oper} {fr:Nat×Nat}
theorem q6w(x:DV)(U H:Nat)(W:x.size<=140737488355328)(w:DU)(Z:w.cell? ⟨U,0,none⟩=some (ii H)):
  Gv Eg 298 [.string x,pp U] w λv w'=>v=.bool (qaa x H 8 false)/\Ext w w':=by
 have h1:=qd6 x H 8 false W w;refine ze Tryz.func298 Tryz.ntmps298 ?_;refine LoadV.of Z (zw ?_);refine zcv (h1) ?_;rintro v w' ⟨rfl,he⟩;(conv=>whnf);exact⟨rfl,he⟩
theorem qahm{H:Type}{L:List H}{a:H}(h:L[i]?=some a):L.set i a=L:=by
 apply Bk;intro j;rw[Cr]
 split
 ·rename_i e;subst e
  split
  ·exact h.symm
  ·rename_i U;rw[Bh Oo]at h;cases h
 ·rfl
theorem qtq(s:DV):seq s ⟨#[]⟩=decide (s.size=0):=by
 rw[AU,qaf,decide_eq_true_iff]
 constructor
 ·rintro rfl;rfl
 ·intro h;obtain⟨a⟩:=s;have:a=#[]:=Array.eq_empty_of_size_eq_zero h;rw[this]
structure TailP(q:DV->Bool)(rest pre rest':List DV)(s:DV):Prop where
 eq:rest=pre++rest'
 all:pre.all q=true
 size:s.size<=9*pre.length
 none:s.size=0↔pre=[]
theorem TailP.step{q:DV->Bool}{rest pre xs:List DV}{x s H:DV}(h:TailP q rest pre (x::xs) s)(U:q x=true)(hs:H.size=s.size+1+x.size)(hx:x.size<=8):TailP q rest (pre++[x]) xs H:=by
 obtain⟨W,Z,h3,h4⟩:=h;refine⟨by rw[W];simp,by simp[Z,U],by simp;omega,?_⟩
 constructor
 ·intro h;omega
 ·intro h;simp at h
theorem qabn(rb i H:Nat)(rest:List DV)(A:oA)(c:Nat)(t:Ee)(w0 w:DU)(L:Ed)(hm:Mem w0 w L)(hi:L[i]?=some (rb,rdC A rest.length c t))(hS:SlAt zeS 1 w0 A rest)(hc:rest.length<=c)(hx:∀x∈rest,x.size<=1000000)(hn:rest.length<=1000000):
  Gv Eg 223 [pp rb,ii H] w λv w'=>∃pre U s,TailP (λx=>qaa x H 8 false) rest pre U s/\seeB (λx=>qaa x H 8 false) U=false/\
   v=.tuple #[.string s,.bool (decide (pre≠[]))]/\∃A' c',SlAt zeS 1 w0 A' U/\U.length<=c'/\Mem w0 w' (L.set i (rb,rdC A' U.length c' t)):=by
 refine ze Tryz.func223 Tryz.ntmps223 ?_;refine znm hm ?_;intro lb w1 ag;refine qk (λx:List DV×oA×Nat×DV=>[(0,pp rb),(3,pp lb),(6,.string x.2.2.2)])
  (λx w2=>∃pre,TailP (λx=>qaa x H 8 false) rest pre x.1 x.2.2.2/\SlAt zeS 1 w0 x.2.1 x.1/\x.1.length<=x.2.2.1/\Mem w0 w2 ((lb,.cells #[ii H] 3)::L.set i (rb,rdC x.2.1 x.1.length x.2.2.1 t)))
  (λx=>x.1.length) (rest,A,c,⟨#[]⟩) fq ⟨[],⟨rfl,rfl,by simp;rfl,by simp;rfl⟩,hS,hc,by simp only;rw[qahm hi];exact ag⟩ ?_
 rintro⟨xs,B,d,s⟩ w2 an ⟨pre,hP,Z,hd,W⟩;simp only at hP Z hd W;dsimp only;have ad:i<L.length:=(Af.1 hi).1;have ah:=W.get mh;have ai:∀x∈xs,x.size<=1000000:=λx aj=>hx x (by rw[hP.eq];exact Ac _ aj)
 have ao:pre.length<=1000000:=by have:=Ae List.length hP.eq;simp at this;omega
 have aq:=hP.size;refine zcv (qk5 rb 298 [pp lb] (λx=>qaa x H 8 false) xs B d t w2 (W.get (zmg (i:=i+1) (by simp[ad]))) (Z.ext W.ext) (λx ys w3 e he=>q6w x lb H (by have:=ai x (by rw[e];exact AV ..);omega) w3 (he.cell (by rw[qa ah];rfl)))) ?_;rintro v w3 ⟨rfl,he⟩;have aa:=W.call he;cases hq:seeB (λx=>qaa x H 8 false) xs
 ·refine zu ?_;refine⟨pre,xs,s,hP,hq,?_,B,d,Z,hd,aa.sub (AS ..)⟩;have e:seq s ⟨#[]⟩=decide (pre=[]):=by
   rw[qtq,AU,decide_eq_true_iff,decide_eq_true_iff];exact hP.none
  rw[e]
  congr 3
  by_cases h:pre=[]<;>simp[h]
 ·obtain⟨x,ys,rfl⟩:∃x ys,xs=x::ys:=by
   cases xs with
   | nil=>cases hq
   | cons x ys=>exact⟨x,ys,rfl⟩
  have hq:qaa x H 8 false=true:=hq;have ak:x.size<=8:=by simp[qaa]at hq;omega
  simp only[AC]at hd aa|-;refine zu ?_;refine zcv (qfz rb (i+1) x ys B d t w0 w3 _ aa (by simp[ad]) Z hd) ?_;rintro v w4 ⟨rfl,A',c',al,am,ae⟩;have af:Mem w0 w4 ((lb,.cells #[ii H] 3)::L.set i (rb,rdC A' ys.length c' t)):=by
   rw[List.set_cons_succ,Dd]at ae;exact ae
  (conv=>whnf);refine⟨by show 1+x.size<=_;omega,?_⟩;(conv=>whnf);refine⟨by show s.size+(_:DV).size<=_;rw[bsz];show s.size+(1+x.size)<=_;omega,?_⟩;(conv=>whnf);exact⟨(ys,A',c',s++((⟨#[45]⟩:DV)++x)),fq,⟨pre++[x],hP.step hq (by rw[bsz,bsz];show s.size+(1+x.size)=_;omega) ak,al,am,af⟩,by simp⟩
def qfj:Nat->List DV->List DV
 | 0,l=>l
 | _,[]=>[]
 | k+1,x::xs=>if qaa x 3 3 true=true then qfj k xs else x::xs
def qe3:List DV->Option (List DV)
 | []=>none
 | x::xs=>if qaa x 2 8 true=true then some (if 3<x.size then xs else qfj 3 xs)else none
def tagC(H U W Z:DV)(V E:DZ)(a6:DV):Ee:=[.string H,.string U,.string W,.string Z,V,E,.string a6]
section
variable {w0 w:DU} {L:Ed} {i rb n c off:Nat} {A:oA} {t:Ee} {v:DZ}
theorem qii{K:Ec}(H:Mem w0 w L)(hi:L[i]?=some (rb,rdC A n c t))(k:Nat)(U:off=1+k)(hk:k<t.length)(W:qco v=true)(Z:∀w',Mem w0 w' (L.set i (rb,rdC A n c (t.set k v)))->K w'):StoreV w rb off v K:=by
 subst U;refine StoreV.mem H hi Ys W λw' h=>Z w' ?_;have e:(Value.slice A n c::t).toArray.setIfInBounds (1+k) v=(Value.slice A n c::t.set k v).toArray:=by
  grind
 rw[e]at h;exact h
theorem qhj{K:DZ->Prop}(H:Mem w0 w L)(hi:L[i]?=some (rb,rdC A n c t))(k:Nat)(U:off=1+k)(Z:t[k]?=some v)(W:K v):LoadV w rb off K:=by
 subst U;exact LoadV.mem H hi (by grind) W
end
theorem q4d(x:DV)(H:x.size<=140737488355328)(w:DU):Gv Eg 290 [.string x] w λv w'=>v=.bool (qaa x 2 8 true)/\Ext w w':=by
 have U:=qd6 x 2 8 true H w;refine ze Tryz.func290 Tryz.ntmps290 ?_;refine zcv (U) ?_;rintro v w' ⟨rfl,W⟩;conv=>whnf
 simp_all
theorem q4e(x:DV)(H:x.size<=140737488355328)(w:DU):Gv Eg 292 [.string x] w λv w'=>v=.bool (qaa x 3 3 true)/\Ext w w':=by
 have U:=qd6 x 3 3 true H w;refine ze Tryz.func292 Tryz.ntmps292 ?_;refine zcv (U) ?_;rintro v w' ⟨rfl,W⟩;conv=>whnf
 simp_all
theorem qsl(rb i:Nat)(rest:List DV)(A:oA)(c:Nat)(a0 a2 a3 a6:DV)(V E:DZ)(w0 w:DU)(L:Ed)(hm:Mem w0 w L)(hi:L[i]?=some (rb,rdC A rest.length c (tagC a0 ⟨#[]⟩ a2 a3 V E a6)))(hS:SlAt zeS 1 w0 A rest)(hc:rest.length<=c)(hx:∀x∈rest,x.size<=1000000):
  Gv Eg 220 [pp rb] w λv w'=>(qe3 rest=none/\v=.bool false/\Ext w0 w')\/
   (∃ae,qe3 rest=some ae/\v=.bool true/\∃A' c' b0 b1,SlAt zeS 1 w0 A' ae/\ae.length<=c'/\Mem w0 w' (L.set i (rb,rdC A' ae.length c' (tagC b0 b1 a2 a3 V E a6)))):=by
 have U:i<L.length:=(by grind)
 refine ze Tryz.func220 Tryz.ntmps220 ?_;refine zcv (qk5 rb 290 [] (λx=>qaa x 2 8 true) rest A c _ w (hm.get (zmg hi)) (hS.ext hm.ext) (λx ys w3 e he=>q4d x (by have:=hx x (by rw[e];exact AV ..);omega) w3)) ?_;rintro v w1 ⟨rfl,he⟩;have ak:=hm.call he;cases rest with
 | nil=>
  refine zu ?_;exact .inl ⟨rfl,rfl,ak.ext⟩
 | cons x xs=>
  show putV _ _ _ (Value.bool (qaa x 2 8 true)) _;cases hq:qaa x 2 8 true
  ·refine zu ?_;exact .inl ⟨by grind [qe3],rfl,ak.ext⟩
  ·have hR:qe3 (x::xs)=some (if 3<x.size then xs else qfj 3 xs):=by grind [qe3]
   rw[hR];have au:=hx x mh;simp only[AC]at hi ak hc|-;refine zu ?_;refine zcv (qfz rb i x xs A c _ w0 w1 L ak hi hS hc) ?_;rintro v w2 ⟨rfl,A2,c2,am,an,ao⟩;(conv=>whnf);refine qii ao (Bq U) 0 rfl (show 0<7 by decide) rfl ?_;intro w3 ah;rw[Dd]at ah;replace ah:Mem w0 w3 (L.set i (rb,rdC A2 xs.length c2 (tagC x ⟨#[]⟩ a2 a3 V E a6))):=ah;(conv=>whnf);refine qhj ah (Bq U) 0 rfl rfl ?_;(conv=>whnf);refine zC (λ_=>zw ?_) (λ_=>zw ?_)
   ·grind
   ·rw[Aa Oo];refine qk (λx:Nat×List DV×oA×Nat×DV=>[(0,pp rb),(3,ii x.1)])
     (λy w2=>y.1<=3/\qfj 3 xs=qfj (3-y.1) y.2.1/\y.2.2.2.2.size<=y.1*1000001/\(∀x∈y.2.1,x.size<=1000000)/\SlAt zeS 1 w0 y.2.2.1 y.2.1/\y.2.1.length<=y.2.2.2.1/\Mem w0 w2 (L.set i (rb,rdC y.2.2.1 y.2.1.length y.2.2.2.1 (tagC x y.2.2.2.2 a2 a3 V E a6))))
     (λy=>3-y.1) (0,xs,A2,c2,⟨#[]⟩) fq ⟨by simp,rfl,by simp;rfl,(by grind),am,an,ah⟩ ?_
    rintro⟨k,ys,B,d,s⟩ w4 av ⟨h1,h2,h3,h4,af,ag,ai⟩;simp only at h1 h2 h3 h4 af ag ai;dsimp only;(conv=>whnf);refine zC (λ_=>zu ?_) (λ_=>zu ?_)
    ·have hk:3-k=(2-k)+1:=by omega
     refine zcv (qk5 rb 292 [] (λx=>qaa x 3 3 true) ys B d _ w4 (ai.get (zmg (Bq U))) (af.ext ai.ext) (λx zs w3 e he=>q4e x (by have:=h4 x (by rw[e];exact AV ..);omega) w3)) ?_;rintro v w5 ⟨rfl,aq⟩;have aj:=ai.call aq;cases ys with
     | nil=>
      refine zu ?_;refine .inr ⟨[],?_,rfl,B,d,x,s,af,ag,aj⟩;rw[h2,hk];rfl
     | cons y zs=>
      show putV _ _ _ (Value.bool (qaa y 3 3 true)) _;have ar:qfj (2-k+1) (y::zs)=if qaa y 3 3 true=true then qfj (2-k) zs else y::zs:=rfl;rw[hk,ar]at h2;cases hq:qaa y 3 3 true
      ·rw[Aa (by rw[hq];simp)]at h2;refine zu ?_
       grind
      ·rw[Ad hq]at h2;simp only[AC]at aj ag|-;have hy:=h4 y mh;(conv=>whnf);refine zt ?_;refine zC (λ_=>zw ?_) (λ_=>zw ?_)
       ·
        refine qhj aj (Bq U) 1 rfl rfl ?_;(conv=>whnf);refine⟨by show s.size+1<=_;omega,?_⟩;(conv=>whnf);refine qii aj (Bq U) 1 rfl (show 1<7 by decide) rfl ?_;intro w7 al;rw[Dd]at al;replace al:Mem w0 w7 (L.set i (rb,rdC B (zs.length+1) d (tagC x (s++(⟨#[45]⟩:DV)) a2 a3 V E a6))):=al;(conv=>whnf);refine DrawV.inv (λS w=>(S 11=false/\(bif S 6 then(∃A' c',SlAt zeS 1 w0 A' zs/\zs.length<=c'/\Mem w0 w (L.set i (rb,rdC A' zs.length c' (tagC x (s++(⟨#[45]⟩:DV)) a2 a3 V E a6))))else Mem w0 w (L.set i (rb,rdC B (zs.length+1) d (tagC x (s++(⟨#[45]⟩:DV)) a2 a3 V E a6)))))\/
          (S 11=true/\S 4=true/\S 6=true/\∃A' c',SlAt zeS 1 w0 A' zs/\zs.length<=c'/\Mem w0 w (L.set i (rb,rdC A' zs.length c' (tagC x ((s++(⟨#[45]⟩:DV))++y) a2 a3 V E a6))))) rfl Jk (.inl ⟨rfl,al.drew⟩) ?_
        (conv=>whnf);(iterate 4 (refine zi ?_));refine StepI.of (.string (s++(⟨#[45]⟩:DV))) (λS wd hk hp H=>?_) (zw ?_)
        ·obtain⟨aa,H⟩:=H.resolve_right (λh=>by have:=h.2.1;rw[hk]at this;cases this);(conv=>whnf);cases h6:S 6
         ·rw[h6]at H;refine qhj H (Bq U) 1 rfl rfl ?_;(conv=>whnf);exact⟨rfl,.inl ⟨aa,by show bif S 6 then _ else _;simp_all⟩⟩
         ·rw[h6]at H;obtain⟨A',c',W,Z,hM⟩:=H;refine qhj hM (Bq U) 1 rfl rfl ?_;(conv=>whnf);exact⟨rfl,.inl ⟨aa,by show bif S 6 then _ else _;simp_all⟩⟩
        refine zi ?_;refine StepI.of (.string y) (λS wd hk hp H=>?_) (zw ?_)
        ·obtain⟨aa,H⟩:=H.resolve_right (λh=>by have:=h.2.2.1;rw[hk]at this;cases this);have h6:S 6=false:=hk;rw[h6]at H;(conv=>whnf);refine zcv (qfz rb i y zs B d _ w0 wd _ H (Bq U) af ag) ?_;rintro v w6 ⟨rfl,A',c',W,Z,ad⟩;rw[Dd]at ad;(conv=>whnf);exact⟨rfl,.inl ⟨aa,A',c',W,Z,ad⟩⟩
        refine StepI.of (.string ((s++(⟨#[45]⟩:DV))++y)) (λS wd hk hp H=>zw ?_) (zw ?_)
        ·refine⟨by rw[bsz];show s.size+1+y.size<=_;omega,?_⟩;(conv=>whnf);exact⟨rfl,H⟩
        (iterate 3 (refine zi ?_));refine StepI.of undef (λS wd hk hp H=>?_) (zw ?_)
        ·obtain⟨aa,H⟩:=H.resolve_right (λh=>by have:=h.1;rw[hk]at this;cases this);have h4:=hp 4 Od;have h6:=hp 6 Od;rw[h6]at H;obtain⟨A',c',W,Z,hM⟩:=H;(conv=>whnf);refine qii hM (Bq U) 1 rfl (show 1<7 by decide) rfl ?_;intro w6 ad;rw[Dd]at ad;(conv=>whnf);exact⟨rfl,.inr ⟨rfl,h4,h6,A',c',W,Z,ad⟩⟩
        intro w6 H;obtain⟨_,_,_,A',c',W,Z,hM⟩:=H.resolve_left (λh=>by have:=h.1;cases this);refine zu ?_;refine⟨(k+1,zs,A',c',(s++(⟨#[45]⟩:DV))++y),fq,⟨by omega,?_,?_,(by grind),W,Z,hM⟩,by omega⟩
        ·simp_all
        ·simp only[bsz,show(⟨#[45]⟩:DV).size=1 from rfl];omega
       ·skip
        refine DrawV.inv (λS w=>(S 11=false/\(bif S 6 then(∃A' c',SlAt zeS 1 w0 A' zs/\zs.length<=c'/\Mem w0 w (L.set i (rb,rdC A' zs.length c' (tagC x s a2 a3 V E a6))))else Mem w0 w (L.set i (rb,rdC B (zs.length+1) d (tagC x s a2 a3 V E a6)))))\/
          (S 11=true/\S 4=true/\S 6=true/\∃A' c',SlAt zeS 1 w0 A' zs/\zs.length<=c'/\Mem w0 w (L.set i (rb,rdC A' zs.length c' (tagC x (s++y) a2 a3 V E a6))))) rfl Jk (.inl ⟨rfl,aj.drew⟩) ?_
        (conv=>whnf);(iterate 4 (refine zi ?_));refine StepI.of (.string s) (λS wd hk hp H=>?_) (zw ?_)
        ·obtain⟨aa,H⟩:=H.resolve_right (λh=>by have:=h.2.1;rw[hk]at this;cases this);(conv=>whnf);cases h6:S 6
         ·rw[h6]at H;refine qhj H (Bq U) 1 rfl rfl ?_;(conv=>whnf);exact⟨rfl,.inl ⟨aa,by show bif S 6 then _ else _;simp_all⟩⟩
         ·rw[h6]at H;obtain⟨A',c',W,Z,hM⟩:=H;refine qhj hM (Bq U) 1 rfl rfl ?_;(conv=>whnf);exact⟨rfl,.inl ⟨aa,by show bif S 6 then _ else _;simp_all⟩⟩
        refine zi ?_;refine StepI.of (.string y) (λS wd hk hp H=>?_) (zw ?_)
        ·obtain⟨aa,H⟩:=H.resolve_right (λh=>by have:=h.2.2.1;rw[hk]at this;cases this);have h6:S 6=false:=hk;rw[h6]at H;(conv=>whnf);refine zcv (qfz rb i y zs B d _ w0 wd _ H (Bq U) af ag) ?_;rintro v w6 ⟨rfl,A',c',W,Z,ad⟩;rw[Dd]at ad;(conv=>whnf);exact⟨rfl,.inl ⟨aa,A',c',W,Z,ad⟩⟩
        refine StepI.of (.string (s++y)) (λS wd hk hp H=>zw ?_) (zw ?_)
        ·refine⟨by omega,?_⟩;(conv=>whnf);exact⟨rfl,H⟩
        (iterate 3 (refine zi ?_));refine StepI.of undef (λS wd hk hp H=>?_) (zw ?_)
        ·obtain⟨aa,H⟩:=H.resolve_right (λh=>by have:=h.1;rw[hk]at this;cases this);have h4:=hp 4 Od;have h6:=hp 6 Od;rw[h6]at H;obtain⟨A',c',W,Z,hM⟩:=H;(conv=>whnf);refine qii hM (Bq U) 1 rfl (show 1<7 by decide) rfl ?_;intro w6 ad;rw[Dd]at ad;(conv=>whnf);exact⟨rfl,.inr ⟨rfl,h4,h6,A',c',W,Z,ad⟩⟩
        intro w6 H;obtain⟨_,_,_,A',c',W,Z,hM⟩:=H.resolve_left (λh=>by have:=h.1;cases this);refine zu ?_;refine⟨(k+1,zs,A',c',s++y),fq,⟨by simp only;omega,?_,?_,λx hx=>h4 x (zmc hx),W,Z,hM⟩,by omega⟩
        all_goals grind
    ·refine .inr ⟨ys,?_,rfl,B,d,x,s,af,ag,ai⟩;rw[h2,show 3-k=0 by omega];rfl
open Go.RowKit
namespace V
structure RowB(e:DX)(xs:Ee)(L:Ed)(v:DZ):Prop where
 h:(v=.slice none 0 0/\xs=[])\/∃g cap cur,v=.slice (some ⟨g,0,none⟩) xs.length cap/\(g,Obj.cells cur e)∈L/\xs.length<=cap/\cap<=maxLen/\cur.size=cap/\cur.toList.take xs.length=xs
section
variable {w0 w:DU} {L L':Ed} {e:DX} {xs:Ee} {v:DZ}
theorem RowB.nil(e:DX)(L:Ed):RowB e [] L (.slice none 0 0):=⟨Js⟩
theorem RowB.owns(h:RowB e xs L v)(W:Mem w0 w L):w.ownsRow w0.heap.size e 1 v xs.length xs:=by
 refine⟨Oo,?_⟩
 rcases h.h with⟨rfl,rfl⟩|⟨g,H,U,rfl,Z,h1,h2,h3,h4⟩
 ·simp
 ·exact .inr ⟨g,H,U,rfl,(W.own _ Z).1,W.get Z,h1,h2,by omega,by simp_all⟩
theorem RowB.keep(h:RowB e xs L v)(W:∀y∈L,v.ownBlock=some y.1->y∈L'):RowB e xs L' v:=by
 refine⟨?_⟩
 rcases h.h with h|⟨g,H,U,rfl,Z,h1⟩
 ·exact .inl h
 ·exact .inr ⟨g,H,U,rfl,W _ Z rfl,h1⟩
theorem RowB.in_(h:RowB e xs L v)(H:v.ownBlock=some g):∃o,(g,o)∈L:=by
 rcases h.h with⟨rfl,_⟩|⟨Z,U,W,rfl,h',_⟩
 ·cases H
 ·cases H;grind
theorem RowB.slice(h:RowB e xs L v):∃A c,v=.slice A xs.length c:=by
 rcases h.h with⟨rfl,rfl⟩|⟨g,H,U,rfl,_⟩
 all_goals simp
theorem RowB.sl{l:List DV}{n:Nat}(h:RowB e (l.map Value.string) L (.slice A n c))(Z:Mem w0 w L):SlAt zeS 1 w A l:=by
 refine⟨λaa=>?_⟩
 rcases h.h with⟨_,h0⟩|⟨g,ad,U,hv,hg,h1,_,_,h4⟩
 ·simp_all
 ·cases hv;refine⟨g,0,rfl,λj x hx k u W=>?_⟩;cases k with
  | succ k=>simp[zeS]at W
  | zero=>
   simp only[zeS,AT,AR]at W;subst W;have H:(U.toList.take (l.map Value.string).length)[j]?=some (.string x):=by simp_all
   rw[BE]at H
   split at H
   ·rw[qa (Z.get hg)]
    simpa using H
   ·cases H
end
theorem AppV.blk{t:DX}{i:TypeInfo}{n:Nat}(ht:P.underlying t=some (.slice e))(hi:P.info? e=some i)(hz:i.zero=some z)(W:i.size=1)(ad:z.cells.size=1)(ae:i.bytes<=16)(H:Mem w0 w L)(hr:RowB e xs L (.slice A n c))(hn:n=xs.length)(hx:x.oneCell'=true)(hb:w.cell? ⟨nb,0,none⟩=some x)(Z:n+1<=8000000000000)(hk:∀A' c' w' L',Mem w0 w' L'->RowB e (xs++[x]) L' (.slice A' (n+1) c')->(∀y∈L,Value.ownBlock (.slice A n c)≠some y.1->y∈L')->
   (∀g,Value.ownBlock (.slice A' (n+1) c')=some g->Value.ownBlock (.slice A n c)=some g\/∀y∈L,y.1≠g)->K (.slice A' (n+1) c') w'):AppV P #[t,t] ty (.slice A n c) (.slice (some ⟨nb,0,none⟩) 1 1) w K:=by
 subst hn;refine AppV.own (news:=[x]) ht hi hz W ad Od (hr.owns H) H.ext.size rfl (λ_=>⟨nb,0,rfl,λk u hu=>?_⟩) (by grind) ?_ Oo ?_
 ·grind
 ·exact AI (B8 Z ae) Od
 ·intro v' w' ho hg aj
  rcases ho.2 with⟨_,h0⟩|⟨g,af,ag,rfl,ak,al,h1,h2,h3,h4⟩
  ·omega
  ·have aa:∀y∈L,y.1<w.heap.size:=λy U=>H.lt (b:=y.1) (o:=y.2) U
   have am:∀y∈L,Value.ownBlock (.slice A xs.length c)≠some y.1->y.1≠g:=(by grind [Value.ownBlock])
   refine hk _ af w' ((g,.cells ag e)::L.filter λy=>decide (Value.ownBlock (.slice A xs.length c)≠some y.1)) ⟨?_,?_,?_⟩ ⟨(by grind)⟩ ?_ ?_
   ·exact Below.grown H.ext hg H.ext.size (λk hk=>((hr.owns H).lt k hk).1)
   ·intro y U
    rcases AB.1 U with rfl|U
    ·simp_all
    ·obtain⟨U,hv⟩:=BK.1 U;have hv:=Cs hv;refine⟨(H.own y U).1,?_⟩;rw[hg.block y.1 (aa y U) (by grind)];exact(H.own y U).2
   ·simp only[AK,CR];refine⟨λai=>?_,(List.filter_sublist.map _).nodup H.nodup⟩
    grind
   all_goals grind
structure RowsP(e:DX)(O:Ef)(L:Ed)(R:List (Ee×DZ)):Prop where
 row:∀(k:Nat) p,R[k]?=some p->RowB e p.1 L p.2
 out:∀(k:Nat) p g,R[k]?=some p->p.2.ownBlock=some g->g∉O
 ap:∀(k k':Nat) p p' g,R[k]?=some p->R[k']?=some p'->k≠k'->p.2.ownBlock=some g->p'.2.ownBlock≠some g
theorem RowsP.keep{R:List (Ee×DZ)}(h:RowsP e O L R)(U:∀y∈L,y.1∉O->y∈L'):RowsP e O L' R:=
 ⟨λk p H=>(h.row k p H).keep λy W Z=>U y W (h.out k p y.1 H Z),h.out,h.ap⟩
theorem RowsP.app{R:List (Ee×DZ)}{t:DX}{i:TypeInfo}{n:Nat}(h:RowsP e O L R)(k:Nat)(hk:R[k]?=some (xs,.slice A n c))(ht:P.underlying t=some (.slice e))(hi:P.info? e=some i)(hz:i.zero=some z)(aa:i.size=1)(af:z.cells.size=1)(ag:i.bytes<=16)(hm:Mem w0 w L)(hO:∀g∈O,∃o,(g,o)∈L)(hn:n=xs.length)(hx:x.oneCell'=true)(hb:w.cell? ⟨nb,0,none⟩=some x)(ae:n+1<=8000000000000)(hK:∀A' c' w' L',Mem w0 w' L'->RowsP e O L' (R.set k (xs++[x],.slice A' (n+1) c'))->(∀y∈L,y.1∈O->y∈L')->K (.slice A' (n+1) c') w'):AppV P #[t,t] ty (.slice A n c) (.slice (some ⟨nb,0,none⟩) 1 1) w K:=by
 refine AppV.blk ht hi hz aa af ag hm (h.row k _ hk) hn hx hb ae λA' c' w' L' ah ai W Z=>hK A' c' w' L' ah ?_ ?_
 ·have an:k<R.length:=(by grind)
  have H:∀(j:Nat) p,(R.set k (xs++[x],.slice A' (n+1) c'))[j]?=some p->(j=k/\p=(xs++[x],.slice A' (n+1) c'))\/(j≠k/\R[j]?=some p):=(by grind)
  have aj:∀(j:Nat) p g,j≠k->R[j]?=some p->p.2.ownBlock=some g->Value.ownBlock (.slice A' (n+1) c')≠some g:=λj p g hj U hg ak=>by
   rcases Z g ak with ho|ho
   ·exact h.ap j k p _ g U hk hj hg ho
   ·obtain⟨o,ao⟩:=(h.row j p U).in_ hg
    grind
  refine⟨λj p U=>?_,λj p g U hg=>?_,λj j' p p' g U ad al hg=>?_⟩
  ·rcases H j p U with⟨_,rfl⟩|⟨hj,U⟩
   ·exact ai
   ·exact(h.row j p U).keep λy hy hv=>W y hy (h.ap j k p _ y.1 U hk hj hv)
  ·rcases H j p U with⟨_,rfl⟩|⟨hj,U⟩
   ·rcases Z g hg with ho|ho
    ·exact h.out k _ g hk ho
    grind
   ·exact h.out j p g U hg
  ·rcases H j p U with⟨ej,rfl⟩|⟨hj,U⟩<;>rcases H j' p' ad with⟨aq,rfl⟩|⟨ar,ad⟩
   ·omega
   ·grind
   ·grind
   ·exact h.ap j j' p p' g U ad al hg
 ·intro y hy am;exact W y hy λhv=>h.out k _ y.1 hk hv am
end V
theorem qgb{o:Obj}(hi:L[i]?=some (rb,o)):(rb,o')∈L.set i (rb,o')/\∀y∈L,y.1≠rb->y∈L.set i (rb,o'):=by
 have H:i<L.length:=(Af.1 hi).1;refine⟨zmg (Bq H),λy Z U=>?_⟩;obtain⟨j,W⟩:=AP.1 Z;refine zmg (i:=j) ?_;rw[List.getElem?_set_ne (λe=>U ?_),W];subst e;rw[hi]at W;cases W;rfl
section
variable {w0 w:DU} {L:Ed} {rb n c off:Nat} {A:oA} {t:Ee} {v:DZ}
structure RdM(w0 w':DU)(L:Ed)(rb:Nat)(o':Obj)(L':Ed):Prop where
 mem:Mem w0 w' L'
 rd:(rb,o')∈L'
 keep:∀y∈L,y.1≠rb->y∈L'
theorem qf7{K:Ec}(H:Mem w0 w L)(hi:(rb,rdC A n c t)∈L)(k:Nat)(U:off=1+k)(W:k<t.length)(Z:qco v=true)(hw:∀w' L',RdM w0 w' L rb (rdC A n c (t.set k v)) L'->K w'):StoreV w rb off v K:=by
 obtain⟨i,hi⟩:=AP.1 hi;exact qii H hi k U W Z λw' h=>hw w' _ ⟨h,(qgb hi).1,(qgb hi).2⟩
theorem qyw{K:DZ->Prop}(H:Mem w0 w L)(hi:(rb,rdC A n c t)∈L)(k:Nat)(U:off=1+k)(W:t[k]?=some v)(Z:K v):LoadV w rb off K:=by
 obtain⟨i,hi⟩:=AP.1 hi;exact qhj H hi k U W Z
theorem qaax{x:DV}{xs:List DV}(H:Mem w0 w L)(hi:(rb,rdC A (xs.length+1) c t)∈L)(U:SlAt zeS 1 w0 A (x::xs))(W:xs.length+1<=c):
  Gv Eg 222 [pp rb] w λv w'=>v=.string x/\∃A' c' L',SlAt zeS 1 w0 A' xs/\xs.length<=c'/\RdM w0 w' L rb (rdC A' xs.length c' t) L':=by
 obtain⟨i,hi⟩:=AP.1 hi;refine(qfz rb i x xs A c t w0 w L H hi U W).mono ?_;rintro v w' ⟨rfl,A',c',Z,h2,h3⟩;exact⟨rfl,A',c',_,Z,h2,⟨h3,(qgb hi).1,(qgb hi).2⟩⟩
theorem qyx{rest:List DV}{least:Nat}(U:Mem w0 w L)(hi:(rb,rdC A rest.length c t)∈L)(W:SlAt zeS 1 w0 A rest)(Z:rest.length<=c)(hx:∀x∈rest,x.size<=1000000)(hn:rest.length<=1000000):
  Gv Eg 223 [pp rb,ii least] w λv w'=>∃pre H s,TailP (λx=>qaa x least 8 false) rest pre H s/\seeB (λx=>qaa x least 8 false) H=false/\
   v=.tuple #[.string s,.bool (decide (pre≠[]))]/\∃A' c' L',SlAt zeS 1 w0 A' H/\H.length<=c'/\RdM w0 w' L rb (rdC A' H.length c' t) L':=by
 obtain⟨i,hi⟩:=AP.1 hi;refine(qabn rb i least rest A c t w0 w L U hi W Z hx hn).mono ?_;rintro v w' ⟨pre,H,s,h1,h2,rfl,A',c',h3,h4,h5⟩;exact⟨pre,H,s,h1,h2,rfl,A',c',_,h3,h4,⟨h5,(qgb hi).1,(qgb hi).2⟩⟩
end
def qee:List DV->List DV
 | []=>[]
 | x::xs=>if qaa x 4 4 true=true then xs else x::xs
def qda:List DV->List DV
 | []=>[]
 | x::xs=>if regB x=true then xs else x::xs
open Classical in
noncomputable def qi1:List DV->List DV->Option (List DV×List DV)
 | seen,[]=>some (seen,[])
 | seen,x::xs=>if varB x=true then(if lowS x∈seen then none else qi1 (seen++[lowS x]) xs)else some (seen,x::xs)
def extQ(x:DV):Bool:=qaa x 2 8 false
def extS(x:DV):Bool:=qaa x 1 1 false && !qf6 x
open Classical in
noncomputable def extN:Nat->List DV->List DV->Option (List DV)
 | _,_,[]=>some []
 | 0,_,rest=>some rest
 | k+1,seen,x::xs=>if extS x=true then(if xs.takeWhile extQ=[]\/lowS x∈seen then none else extN k (seen++[lowS x]) (xs.dropWhile extQ))else some (x::xs)
noncomputable def qjs(rest:List DV):Option (List DV):=(qi1 [] (qda (qee rest))).bind λr=>extN r.2.length r.1 r.2
theorem TailP.take{q:DV->Bool}{rest pre H:List DV}{s:DV}(h:TailP q rest pre H s)(W:seeB q H=false):rest.takeWhile q=pre/\rest.dropWhile q=H:=by
 have U:=CJ.1 h.all;rw[h.eq,List.takeWhile_append_of_pos U,List.dropWhile_append_of_pos U];cases H with
 | nil=>simp
 | cons y Z=>
  have:q y=false:=W;simp[this]
theorem q56(x:DV)(H:x.size<=140737488355328)(w:DU):Gv Eg 293 [.string x] w λv w'=>v=.bool (qaa x 4 4 true)/\Ext w w':=by
 have U:=qd6 x 4 4 true H w;refine ze Tryz.func293 Tryz.ntmps293 ?_;refine zcv (U) ?_;rintro v w' ⟨rfl,W⟩;(conv=>whnf);exact⟨rfl,W⟩
theorem q57(x:DV)(W:x.size<=140737488355328)(w:DU):Gv Eg 297 [.string x] w λv w'=>v=.bool (extS x)/\Ext w w':=by
 have Z:=qd6 x 1 1 false W w;refine ze Tryz.func297 Tryz.ntmps297 ?_;refine zcv (Z) ?_;rintro v w1 ⟨rfl,H⟩;cases U:qaa x 1 1 false
 ·refine zu ?_;exact⟨by rw[extS,U];rfl,H⟩
 ·refine zu ?_;refine zcv (qhi x w1) ?_;rintro v w2 ⟨rfl,rfl⟩;refine zu ?_;exact⟨by rw[extS,U];rfl,H⟩
theorem qh0(l:List DV)(A:oA)(c:Nat)(x:DV)(w:DU)(W:SlAt zeS 1 w A l)(Z:l.length<=9223372036854775807):
  Gv Eg 296 [.slice A l.length c,.string x] w λv w'=>(∃b,v=.bool b/\(b=true↔x∈l))/\w'=w:=by
 cases l with
 | nil=>
  refine(qz8 Jk (Tryz.slices_Contains_string_empty A c x w)).mono ?_;rintro v w' ⟨rfl,rfl⟩;exact⟨⟨false,rfl,by simp⟩,rfl⟩
 | cons y H=>
  obtain⟨b,off,rfl,h⟩:=W.at_ Js;refine(qz8 Jk (Tryz.slices_Contains_string b off (y::H).length c (y::H) x w znr Z (λj U=>?_))).mono ?_
  ·have:=h j _ (zge U) 0 (.string (y::H)[j]) rfl;rw[Ah,zge U,Cd]
   simpa using this
  ·rintro v w' ⟨rfl,rfl⟩;exact⟨⟨_,rfl,by rw[Go.Lib.containsS_iff,Cb]⟩,rfl⟩
structure RS(w0 w:DU)(O:Ef)(rb:Nat)(rest:List DV)(A:oA)(c:Nat)(V E:DZ)(L:Ed)(R:List (Ee×DZ)):Prop where
 mem:Mem w0 w L
 rd:∃a0 a1 a2 a3 a6,(rb,rdC A rest.length c (tagC a0 a1 a2 a3 V E a6))∈L
 rows:RowsP 9 O L R
 sl:SlAt zeS 1 w0 A rest
 hc:rest.length<=c
 hO:rb∈O
 all:∀g∈O,∃o,(g,o)∈L
 small:∀x∈rest,x.size<=1000000
 vs:(∃A n c,V=.slice A n c)/\∃A n c,E=.slice A n c
section
variable {w0 w w':DU} {O:Ef} {rb:Nat} {rest xs:List DV} {x:DV} {A A':oA} {c c':Nat} {V E V' E':DZ} {L L':Ed} {R:List (Ee×DZ)} {o':Obj}
theorem RS.call(h:RS w0 w O rb rest A c V E L R)(H:Ext w w'):RS w0 w' O rb rest A c V E L R:={ h with mem:=h.mem.call H }
theorem RS.step(h:RS w0 w O rb rest A c V E L R)(H:RdM w0 w' L rb o' L')(W:∃Z a1 a2 a3 a6,o'=rdC A' xs.length c' (tagC Z a1 a2 a3 V' E' a6))(hS:SlAt zeS 1 w0 A' xs)(hc:xs.length<=c')(U:∀y∈xs,y∈rest)(aa:(∃A n c,V'=.slice A n c)/\∃A n c,E'=.slice A n c):RS w0 w' O rb xs A' c' V' E' L' R:=by
 obtain⟨Z,a1,a2,a3,a6,rfl⟩:=W;refine⟨H.mem,⟨Z,a1,a2,a3,a6,H.rd⟩,h.rows.keep λy hy hO=>H.keep y hy λe=>hO (e ▸ h.hO),hS,hc,h.hO,λg hg=>?_,λy hy=>h.small y (U y hy),aa⟩
 by_cases e:g=rb
 ·subst e;exact⟨_,H.rd⟩
 ·obtain⟨o,W⟩:=h.all g hg;exact⟨o,H.keep _ W e⟩
theorem RS.grow(h:RS w0 w O rb rest A c V E L R)(Z:Mem w0 w' L')(hR:RowsP 9 O L' R')(U:∀y∈L,y.1∈O->y∈L'):RS w0 w' O rb rest A c V E L' R':=by
 obtain⟨a0,a1,a2,a3,a6,H⟩:=h.rd;refine⟨Z,⟨a0,a1,a2,a3,a6,U _ H h.hO⟩,hR,h.sl,h.hc,h.hO,λg W=>?_,h.small,h.vs⟩;obtain⟨o,ho⟩:=h.all g W;exact⟨o,U _ ho W⟩
theorem RS.new{o:Obj}(h:RS w0 w O rb rest A c V E L R)(H:nb=w.heap.size)(U:w'=w.alloc o):RS w0 w' O rb rest A c V E L R/\w'.heap[nb]?=some o:=by
 subst H U;exact⟨h.call ((Ext.refl w).alloc o),heap_alloc_new w o⟩
end
theorem NewV.rs{rest:List DV}{V E:DZ}{R:List (Ee×DZ)}{o:Obj}{K:Nat->Ec}(h:RS w0 w O rb rest A c V E L R)(W:∀b w',RS w0 w' O rb rest A c V E L R->w'.heap[b]?=some o->K b w'):NewV w o K:=
 ⟨λb w' H U=>W b w' (h.new H U).1 (h.new H U).2⟩
theorem qjw{rest:List DV}{V E:DZ}{R:List (Ee×DZ)}(p:DV->Bool)(h:RS w0 w O rb rest A c V E L R)(W:∀x U,x.size<=140737488355328->Gv Eg g [.string x] U λv Z=>v=.bool (p x)/\Ext U Z):
  Gv Eg 218 [pp rb,.func (.func g) #[] #[]] w λv w'=>v=.bool (seeB p rest)/\RS w0 w' O rb rest A c V E L R:=by
 obtain⟨a0,a1,a2,a3,a6,H⟩:=h.rd;refine(qk5 rb g [] p rest A c _ w (h.mem.get H) (h.sl.ext h.mem.ext) (λx ys w3 e _=>W x w3 (by have:=h.small x (by rw[e];exact AV ..);omega))).mono ?_;rintro v w' ⟨rfl,he⟩;exact⟨rfl,h.call he⟩
theorem qmc{x:DV}{xs:List DV}{V E:DZ}{R:List (Ee×DZ)}(h:RS w0 w O rb (x::xs) A c V E L R):
  Gv Eg 222 [pp rb] w λv w'=>v=.string x/\∃A' c' L',RS w0 w' O rb xs A' c' V E L' R/\(∀y∈L,y.1≠rb->y∈L'):=by
 obtain⟨a0,a1,a2,a3,a6,H⟩:=h.rd;refine(qaax h.mem H h.sl h.hc).mono ?_;rintro v w' ⟨rfl,A',c',L',W,Z,U⟩;exact⟨rfl,A',c',L',h.step U ⟨_,_,_,_,_,rfl⟩ W Z (λy hy=>zmc hy) h.vs,U.keep⟩
theorem strI:Eg.info? 9=some ((Eg.info? 9).get Jk):=(Bt _).symm
theorem strZ:((Eg.info? 9).get Jk).zero=some (.string ⟨#[]⟩):=by kernel_rfl
theorem RowsP.nils(e:DX)(O:Ef)(L:Ed)(R:List (Ee×DZ))(h:∀p∈R,p=([],.slice none 0 0)):RowsP e O L R:=by
 refine⟨λk p H=>?_,λk p g H U=>?_,λk Z p p' g H W _ U=>?_⟩
 ·rw[h p (zmg H)];exact RowB.nil e L
 ·rw[h p (zmg H)]at U;cases U
 ·rw[h p (zmg H)]at U;cases U
theorem RowsP.none_:RowsP e O L []:=RowsP.nils e O L [] Js
theorem q04{rest r1 r2:List DV}(H:qee rest=r1)(U:qda r1=r2):qjs rest=(qi1 [] r2).bind λr=>extN r.2.length r.1 r.2:=by rw[qjs,H,U]
theorem qaaz(rb:Nat)(O:Ef)(rest:List DV)(A:oA)(c:Nat)(w0 w:DU)(L:Ed)(h:RS w0 w O rb rest A c (.slice none 0 0) (.slice none 0 0) L [])(hn:rest.length<=1000000):
  Gv Eg 221 [pp rb] w λv w'=>(qjs rest=none/\v=.bool false/\Ext w0 w')\/
   (∃U,qjs rest=some U/\v=.bool true/\∃A' c' V E L',RS w0 w' O rb U A' c' V E L' []/\U.length<=rest.length/\∀y∈L,y.1∈O->y.1≠rb->y∈L'):=by
 refine ze Tryz.func221 Tryz.ntmps221 ?_;refine zcv (qjw (λx=>qaa x 4 4 true) h (λx w1 hx=>q56 x hx w1)) ?_;rintro v w1 ⟨rfl,h1⟩;(conv=>whnf);cases Z:seeB (λx=>qaa x 4 4 true) rest
 case' false=>
  refine zv ?_;obtain⟨r1,A1,c1,L1,e1,g1,k1,l1⟩:∃r1 A1 c1 L1,qee rest=r1/\RS w0 w1 O rb r1 A1 c1 (.slice none 0 0) (.slice none 0 0) L1 []/\(∀y∈L,y.1∈O->y.1≠rb->y∈L1)/\r1.length<=rest.length:=by
   refine⟨rest,A,c,L,?_,h1,λy hy _ _=>hy,Ai _⟩;cases rest with
   | nil=>rfl
   | cons x xs=>rw[qee,Aa (by have:qaa x 4 4 true=false:=Z;rw[this];simp)]
  clear Z h1
 case' true=>
  obtain⟨x,xs,rfl⟩:∃x xs,rest=x::xs:=by
   cases rest with
   | nil=>cases Z
   | cons x xs=>exact⟨x,xs,rfl⟩
  have Z:qaa x 4 4 true=true:=Z;refine zv ?_;refine zcv (qmc h1) ?_;rintro v w2 ⟨rfl,A2,c2,L2,h2,k2⟩;(conv=>whnf);obtain⟨a0,a1,a2,a3,a6,W⟩:=id h2.rd;refine qf7 h2.mem W 2 rfl (show 2<7 by decide) rfl ?_;intro w1 L3 ad;obtain⟨r1,A1,c1,L1,e1,g1,k1,l1⟩:∃r1 A1 c1 L1,qee (x::xs)=r1/\RS w0 w1 O rb r1 A1 c1 (.slice none 0 0) (.slice none 0 0) L1 []/\(∀y∈L,y.1∈O->y.1≠rb->y∈L1)/\r1.length<=(x::xs).length:=
   ⟨xs,A2,c2,L3,by rw[qee,Ad Z],h2.step ad ⟨_,_,_,_,_,rfl⟩ h2.sl h2.hc (λy hy=>hy) h2.vs,λy hy _ H=>ad.keep y (k2 y hy H) H,by simp⟩
  clear Z h1 h2 ad W k2;conv=>whnf
 all_goals
  refine zcv (qjw regB g1 (λx w1 hx=>q03 x hx w1)) ?_;rintro v w1 ⟨rfl,g1⟩;(conv=>whnf);cases Z:seeB regB r1
  case' false=>
   refine zv ?_;obtain⟨r2,A2,c2,L2,e2,g2,k2,l2⟩:∃r2 A2 c2 L2,qda r1=r2/\RS w0 w1 O rb r2 A2 c2 (.slice none 0 0) (.slice none 0 0) L2 []/\(∀y∈L1,y.1∈O->y.1≠rb->y∈L2)/\r2.length<=r1.length:=by
    refine⟨r1,A1,c1,L1,?_,g1,λy hy _ _=>hy,Ai _⟩;cases r1 with
    | nil=>rfl
    | cons x xs=>rw[qda,Aa (by have:regB x=false:=Z;rw[this];simp)]
   clear Z g1
  case' true=>
   obtain⟨x,xs,rfl⟩:∃x xs,r1=x::xs:=by
    cases r1 with
    | nil=>cases Z
    | cons x xs=>exact⟨x,xs,rfl⟩
   have Z:regB x=true:=Z;refine zv ?_;refine zcv (qmc g1) ?_;rintro v w2 ⟨rfl,A3,c3,L3,h3,k3⟩;(conv=>whnf);obtain⟨a0,a1,a2,a3,a6,W⟩:=id h3.rd;refine qf7 h3.mem W 3 rfl (show 3<7 by decide) rfl ?_;intro w1 L4 ad;obtain⟨r2,A2,c2,L2,e2,g2,k2,l2⟩:∃r2 A2 c2 L2,qda (x::xs)=r2/\RS w0 w1 O rb r2 A2 c2 (.slice none 0 0) (.slice none 0 0) L2 []/\(∀y∈L1,y.1∈O->y.1≠rb->y∈L2)/\r2.length<=(x::xs).length:=
    ⟨xs,A3,c3,L4,by rw[qda,Ad Z],h3.step ad ⟨_,_,_,_,_,rfl⟩ h3.sl h3.hc (λy hy=>hy) h3.vs,λy hy _ H=>ad.keep y (k3 y hy H) H,by simp⟩
   clear Z g1 h3 ad W k3;conv=>whnf
 all_goals
  have eR:=q04 e1 e2;rw[eR];refine qk (λx:List DV×List DV×oA×Nat=>[(0,pp rb),(3,.slice x.2.2.1 x.1.length x.2.2.2)])
   (λx w3=>∃A c V E L3 vs,RS w0 w3 O rb x.2.1 A c V E L3 [(x.1.map Value.string,.slice x.2.2.1 x.1.length x.2.2.2),(vs,V),([],E)]/\vs.length<=x.1.length/\(∀y∈L2,y.1∈O->y.1≠rb->y∈L3)/\qi1 [] r2=qi1 x.1 x.2.1/\x.1.length+x.2.1.length<=r2.length)
   (λx=>x.2.1.length) ([],r2,none,0) fq ⟨A2,c2,_,_,L2,[],{ g2 with rows:=RowsP.nils _ _ _ _ Js },by simp,λy hy _ _=>hy,rfl,by simp⟩ ?_
  rintro⟨seen,r3,sA,sc⟩ w3 b4 ⟨A3,c3,V3,E3,L3,vs,h3,a9,k3,e3,l3⟩;simp only at h3 a9 e3 l3;dsimp only;(conv=>whnf);refine zcv (qjw varB h3 (λx w1 hx=>qwo x hx w1)) ?_;rintro v w4 ⟨rfl,h4⟩;(conv=>whnf);cases Z:seeB varB r3
  case' true=>
   obtain⟨x,xs,rfl⟩:∃x xs,r3=x::xs:=by
    cases r3 with
    | nil=>cases Z
    | cons x xs=>exact⟨x,xs,rfl⟩
   have Z:varB x=true:=Z;have hx:=h4.small x mh;simp only[AC]at l3;rw[qi1,Ad Z]at e3;refine zv ?_;refine zcv (qmc h4) ?_;rintro v w5 ⟨rfl,A5,c5,L5,h5,k5⟩;(conv=>whnf);refine zcv (qfu x Oo w5) ?_;rintro v w6 ⟨rfl,ba⟩;have h6:=h5.call ba;(conv=>whnf);refine zcv (qh0 seen sA sc (lowS x) w6 ((h6.rows.row 0 _ rfl).sl h6.mem) Oo) ?_;rintro v w7 ⟨⟨b,rfl,hb⟩,rfl⟩;(conv=>whnf);cases b
   ·rw[Aa (by intro h;have:=hb.2 h;cases this)]at e3;refine zv ?_;refine zcv (qfu x Oo w7) ?_;rintro v w8 ⟨rfl,bb⟩;have h8:=h6.call bb;(conv=>whnf);refine NewV.rs h8 λnb w9 h9 am=>zw ?_;refine h9.rows.app 0 rfl Tryz.underlying159 strI strZ Jk rfl (by decide +kernel) h9.mem h9.all Js rfl (by rw[qa am];rfl) Oo ?_;intro an ao aq b5 be bf ar;have ai:=h9.grow be bf ar;(conv=>whnf);obtain⟨VA,vc,rfl⟩:∃VA vc,V3=.slice VA vs.length vc:=(ai.rows.row 1 _ rfl).slice;obtain⟨a0,a1,a2,a3,a6,W⟩:=id ai.rd;refine qyw ai.mem W 4 rfl rfl (zw ?_);refine NewV.rs ai λbg bh ae ah=>zw ?_;refine ae.rows.app 1 rfl Tryz.underlying159 strI strZ Jk rfl (by decide +kernel) ae.mem ae.all rfl rfl (by rw[qa ah];rfl) Oo ?_;intro au av bi b6 bj bk aw;have aa:=ae.grow bj bk aw;obtain⟨a0,a1,a2,a3,a6,W⟩:=id aa.rd;(conv=>whnf);refine qf7 aa.mem W 4 rfl (show 4<7 by decide) rfl ?_;intro bl ax ak;have af:=aa.step (V':=.slice au (vs.length+1) av) (E':=E3) ak ⟨_,_,_,_,_,rfl⟩ aa.sl aa.hc (λy hy=>hy) ⟨⟨_,_,_,rfl⟩,aa.vs.2⟩;(conv=>whnf);refine⟨(seen++[lowS x],xs,an,ao),⟨rfl,by simp only[zla];rfl,trivial⟩,⟨A5,c5,.slice au (vs.length+1) av,E3,ax,vs++[.string x],?_,by simp;omega,λy hy hO H=>ak.keep y (aw y (ar y (k5 y (k3 y hy hO H) H) hO) hO) H,e3,by simp;omega⟩,by simp⟩;simp only[AJ,zla,AK,BN,BC];exact af
   ·rw[Ad (hb.1 rfl)]at e3;refine zv ?_;exact .inl ⟨by rw[e3];rfl,rfl,h6.mem.ext⟩
 all_goals
  have eV:qi1 seen r3=some (seen,r3):=by
   cases r3 with
   | nil=>rfl
   | cons x xs=>rw[qi1,Aa (by have:varB x=false:=Z;rw[this];simp)]
  have eB:(qi1 [] r2).bind (λr=>extN r.2.length r.1 r.2)=extN r3.length seen r3:=by rw[e3,eV];rfl
  rw[eB];clear Z h3 eV eB;refine zv ?_;refine qk (λx:Nat×List DV×List DV×oA×Nat=>[(0,pp rb),(3,.slice x.2.2.2.1 x.2.1.length x.2.2.2.2)])
   (λx w5=>∃A c V E L5 vs es,RS w0 w5 O rb x.2.2.1 A c V E L5 [(x.2.1.map Value.string,.slice x.2.2.2.1 x.2.1.length x.2.2.2.2),(vs,V),(es,E)]/\es.length<=x.2.1.length/\(∀y∈L3,y.1∈O->y.1≠rb->y∈L5)/\extN r3.length seen r3=extN x.1 x.2.1 x.2.2.1/\x.2.2.1.length<=x.1/\x.2.1.length+x.2.2.1.length<=r2.length)
   (λx=>x.2.2.1.length) (r3.length,seen,r3,sA,sc) fq ⟨A3,c3,V3,E3,L3,vs,[],h4,by simp,λy hy _ _=>hy,rfl,Ai _,l3⟩ ?_
  rintro⟨k,sn,r5,sB,sd⟩ w5 b2 ⟨A5,c5,V5,E5,L5,bm,es,h5,bn,k5,e5,lk,l5⟩;simp only at h5 bn e5 lk l5;dsimp only;(conv=>whnf);refine zcv (qjw extS h5 (λx w1 hx=>q57 x hx w1)) ?_;rintro v w6 ⟨rfl,h6⟩;(conv=>whnf);cases Z:seeB extS r5
  ·have eX:extN k sn r5=some r5:=by
    cases r5 with
    | nil=>cases k<;>rfl
    | cons x xs=>
     cases k with
     | zero=>simp at lk
     | succ k=>rw[extN,Aa (by have:extS x=false:=Z;rw[this];simp)]
   refine zv ?_;refine .inr ⟨r5,by rw[e5,eX],rfl,A5,c5,V5,E5,L5,{ h6 with rows:=RowsP.none_ },by omega,λy hy hO H=>k5 y (k3 y (k2 y (k1 y hy hO H) hO H) hO H) hO H⟩
  ·obtain⟨x,xs,rfl⟩:∃x xs,r5=x::xs:=by
    cases r5 with
    | nil=>cases Z
    | cons x xs=>exact⟨x,xs,rfl⟩
   have Z:extS x=true:=Z;have b7:x.size=1:=by simp[extS,qaa]at Z;omega
   obtain⟨k,rfl⟩:∃k',k=k'+1:=⟨k-1,by simp at lk;omega⟩
   have hx:=h6.small x mh;simp only[AC]at l5 lk;rw[extN,Ad Z]at e5;refine zv ?_;refine zcv (qmc h6) ?_;rintro v w7 ⟨rfl,A7,c7,L7,h7,k7⟩;(conv=>whnf);obtain⟨a0,a1,a2,a3,a6,W⟩:=id h7.rd;refine zcv (qyx (least:=2) h7.mem W h7.sl h7.hc h7.small Oo) ?_;rintro v w8 ⟨pre,U,sT,hP,bp,rfl,A8,c8,L8,bq,br,ay⟩;obtain⟨t1,t2⟩:=hP.take bp;have t1:xs.takeWhile extQ=pre:=t1;have t2:xs.dropWhile extQ=U:=t2;have b3:xs.length=pre.length+U.length:=by rw[hP.eq];simp
   have h8:=h7.step ay ⟨_,_,_,_,_,rfl⟩ bq br (λy hy=>by rw[hP.eq];exact Ac _ hy) h7.vs;rw[t1,t2]at e5;have b8:=hP.size;conv=>whnf
   by_cases hp:pre=[]
   ·rw[Ad (.inl hp)]at e5;rw[AM (by simp[hp])];refine zv ?_;exact .inl ⟨e5,rfl,h8.mem.ext⟩
   ·rw[AE (by simpa using hp)];refine zv ?_;refine zcv (qfu x Oo w8) ?_;rintro v w9 ⟨rfl,bt⟩;have h9:=h8.call bt;refine zu ?_;refine zcv (qh0 sn sB sd (lowS x) w9 ((h9.rows.row 0 _ rfl).sl h9.mem) Oo) ?_;rintro v aq ⟨⟨b,rfl,hb⟩,rfl⟩;cases b
    ·rw[Aa (by rintro(h|h);exact hp h;have:=hb.2 h;cases this)]at e5;refine zu ?_;refine zcv (qfu x Oo aq) ?_;rintro v bh ⟨rfl,az⟩;have ae:=h9.call az;(conv=>whnf);refine NewV.rs ae λnb bi aa am=>zw ?_;refine aa.rows.app 0 rfl Tryz.underlying159 strI strZ Jk rfl (by decide +kernel) aa.mem aa.all Js rfl (by rw[qa am];rfl) Oo ?_;intro an ao bl ax bu bv a4;have af:=aa.grow bu bv a4;(conv=>whnf);obtain⟨EA,ec,rfl⟩:∃EA ec,E5=.slice EA es.length ec:=(af.rows.row 2 _ rfl).slice;obtain⟨a0,a1,a2,a3,a6,W⟩:=id af.rd;refine qyw af.mem W 5 rfl rfl (zw ?_);refine⟨by show x.size+sT.size<=_;omega,?_⟩;(conv=>whnf);refine NewV.rs af λbg b9 aj ah=>zw ?_;refine aj.rows.app 2 rfl Tryz.underlying159 strI strZ Jk rfl (by decide +kernel) aj.mem aj.all rfl rfl (by rw[qa ah];rfl) Oo ?_;intro a5 a7 cc cd bw bz a8;have ag:=aj.grow bw bz a8;obtain⟨a0,a1,a2,a3,a6,W⟩:=id ag.rd;(conv=>whnf);refine qf7 ag.mem W 5 rfl (show 5<7 by decide) rfl ?_;intro ce b0 al;have b1:=ag.step (V':=V5) (E':=.slice a5 (es.length+1) a7) al ⟨_,_,_,_,_,rfl⟩ ag.sl ag.hc (λy hy=>hy) ⟨ag.vs.1,⟨_,_,_,rfl⟩⟩;(conv=>whnf);refine⟨(k,sn++[lowS x],U,an,ao),⟨rfl,by simp only[zla];rfl,trivial⟩,⟨A8,c8,V5,.slice a5 (es.length+1) a7,b0,bm,es++[.string (x++sT)],?_,by simp;omega,λy hy hO H=>al.keep y (a8 y (a4 y (ay.keep y (k7 y (k5 y hy hO H) H) H) hO) hO) H,e5,by simp only;omega,by simp;omega⟩,by simp only[AC];omega⟩;simp only[AJ,zla,AK,BN,BC];exact b1
    ·rw[Ad (.inr (hb.1 rfl))]at e5;refine zu ?_;exact .inl ⟨e5,rfl,h9.mem.ext⟩
def qb0:LB->List LB
 | []=>[[]]
 | c::t=>if c=45 then[]::qb0 t else match qb0 t with
  | []=>[[c]]
  | p::H=>(c::p)::H
theorem qm6:∀l:LB,Go.Lib.splitK [45] 0 (Go.Lib.count l [45]) l=qb0 l
 | []=>by
  rfl
 | c::t=>by
  have H:=qm6 t
  by_cases h:c=45
  ·subst h;rw[Go.Lib.count_cons_eq,DG 1,qb0,Ad rfl,<-H,Go.Lib.splitK];rfl
  ·rw[Go.Lib.count_cons_ne c 45 t h,qb0,Aa h,<-H];have hi:Go.Lib.index (c::t) [45]=if Go.Lib.index t [45]==-1 then -1 else Go.Lib.index t [45]+1:=by
    grind [Go.Lib.index]
   cases Go.Lib.count t [45]with
   | zero=>rfl
   | succ k=>
    rw[Go.Lib.splitK,Go.Lib.splitK,hi]
    by_cases U:Go.Lib.index t [45]=-1
    ·simp[U]
    ·have W:=Go.Lib.index_ge t [45];have Z:(Go.Lib.index t [45]==-1)=false:=by simpa using U
     have e2:((Go.Lib.index t [45]+1)==-1)=false:=by
      grind
     have e3:(Go.Lib.index t [45]+1).toNat=(Go.Lib.index t [45]).toNat+1:=by omega
     simp_all
theorem qok:∀l:LB,(qb0 l).length<=l.length+1/\∀x∈qb0 l,x.length<=l.length
 | []=>by simp[qb0]
 | c::t=>by
  obtain⟨W,U⟩:=qok t;unfold qb0
  split
  ·refine⟨by simp;omega,λx H=>?_⟩
   rcases AB.1 H with rfl|H
   ·simp
   ·have:=U x H;simp;omega
  ·cases Z:qb0 t with
   | nil=>simp
   | cons p ps=>
    rw[Z]at W U;refine⟨by simpa using AI W (CF _),λx H=>?_⟩
    rcases AB.1 H with rfl|H
    ·have:=U p mh;simp;omega
    ·have:=U x (zmc H);simp;omega
def dash:DV:=⟨#[45]⟩
def qbn(s:DV):List DV:=Go.Lib.splitB dash 0 (Go.Lib.countB s dash) s
theorem qol(s:DV):(qbn s).length=Go.Lib.countB s dash+1:=Go.Lib.splitB_all dash Od 0 _ s rfl
noncomputable def tagR(l:List DV):Option (List DV):=if seeB qf6 l=true then some l else(qe3 l).bind qjs
def qkj(x:DV):Bool:=qaa x 1 8 false
def qpq(l:List DV):Prop:=if seeB qf6 l=true then(l.tail≠[]/\l.tail.all qkj=true)else l=[]
def tagP(l:List DV):Prop:=∃H,tagR l=some H/\qpq H
open Classical in
noncomputable def tagE(l:List DV):Nat:=if tagP l then 0 else 61
theorem qnc{l:List DV}(h:tagP l):tagE l=0:=by unfold tagE;rw[Ad h]
theorem qd0{l:List DV}(h:¬tagP l):tagE l=61:=by unfold tagE;rw[Aa h]
def MaxLenAt(w:DU):Prop:=∃m:Int,w.cell? ⟨1,0,none⟩=some (ii m)
theorem MaxLenAt.ext(h:MaxLenAt w)(H:Ext w w'):MaxLenAt w':=⟨h.choose,H.cell h.choose_spec⟩
theorem qabf{l:List DV}{t:DX}(U:w'=w.alloc (.cells (l.map Value.string).toArray t)):SlAt V.zeS 1 w' (some ⟨w.heap.size,0,none⟩) l:=by
 subst U;refine⟨λ_=>⟨w.heap.size,0,rfl,λj x W k v H=>?_⟩⟩;cases k with
 | succ k=>simp[V.zeS]at H
 | zero=>
  simp only[V.zeS,AT,AR]at H;subst H;rw[qa (heap_alloc_new w _)];simp[W]
theorem q6p(s:DV)(Z:s.size<=1000000)(w:DU)(U:MaxLenAt w):
  Gv Eg 217 [.string s,.string dash] w λv w'=>∃b,v=.slice (some ⟨b,0,none⟩) (qbn s).length (qbn s).length/\SlAt V.zeS 1 w' (some ⟨b,0,none⟩) (qbn s)/\Ext w w':=by
 obtain⟨m,W⟩:=U;refine qg0 Jk ((Tryz.strings_Split s dash m w Oo W Od).mono ?_);rintro e w' ⟨rfl,H⟩;exact⟨_,rfl,w.heap.size,by rw[qol],qabf H,by rw[H];exact(Ext.refl w).alloc _⟩
theorem qet:∀v∈[Value.string ⟨#[]⟩,.string ⟨#[]⟩,.string ⟨#[]⟩,.string ⟨#[]⟩,.slice none 0 0,.slice none 0 0,.string ⟨#[]⟩],v.oneCell'=true:=by
 intro v H;simp at H
 rcases H with rfl|rfl|rfl<;>rfl
theorem qr5:∀(k:Nat) (l:List DV),(qfj k l).length<=l.length/\∀x∈qfj k l,x∈l
 | 0,l=>⟨Ai _,λx H=>H⟩
 | k+1,[]=>⟨Ai _,λx H=>H⟩
 | k+1,y::W=>by
  by_cases U:qaa y 3 3 true=true
  ·rw[qfj,Ad U];obtain⟨h1,Z⟩:=qr5 k W;exact⟨by simp;omega,λx H=>zmc (Z x H)⟩
  ·rw[qfj,Aa U];exact⟨Ai _,λx H=>H⟩
theorem qoe{l r:List DV}(h:qe3 l=some r):r.length<=l.length/\∀x∈r,x∈l:=by
 cases l with
 | nil=>cases h
 | cons y W=>
  by_cases U:qaa y 2 8 true=true
  ·rw[qe3,Ad U]at h;have h:=Bb h;subst h
   split
   ·exact⟨by simp,λx H=>zmc H⟩
   ·obtain⟨h1,Z⟩:=qr5 3 W;exact⟨by simp;omega,λx H=>zmc (Z x H)⟩
  ·rw[qe3,Aa U]at h;cases h
theorem q4f{l r:List DV}(h:qe3 l=some r):∀x∈r,x∈l:=(qoe h).2
theorem ql5{l r:List DV}(h:qe3 l=some r):r.length<=l.length:=(qoe h).1
theorem qyv{n H:Nat}{t:Ee}{K:Ee->Prop}(U:Mem w0 w L)(hi:(rb,rdC A n c t)∈L)(W:off=1)(Z:t.length=H)(hk:K t):LoadA w rb off H K:=by
 subst W;refine⟨t,Z,λi aa=>?_,hk⟩;have:=U.get hi;rw[rdC]at this;rw[qa this,An,DG 1 i,BR]
theorem tag7{V E:DZ}(h:(∃A n c,V=.slice A n c)/\∃A n c,E=.slice A n c)(U W Z a3 a6:DV):∀v∈tagC U W Z a3 V E a6,v.oneCell'=true:=by
 obtain⟨⟨_,_,_,rfl⟩,⟨_,_,_,rfl⟩⟩:=h;intro v H;simp[tagC]at H
 rcases H with rfl|rfl|rfl|rfl|rfl|rfl|rfl<;>rfl
theorem qmn(s:DV):(qbn s).map (·.data.toList)=qb0 s.data.toList:=by
 rw[qbn,Go.Lib.splitB_data,<-qm6];rfl
theorem qom(s:DV):(∀x∈qbn s,x.size<=s.size)/\(qbn s).length<=s.size+1:=by
 obtain⟨H,U⟩:=qok s.data.toList;rw[<-qmn]at H U;refine⟨λx W=>?_,by simpa using H⟩;have:=U _ (AF.2 ⟨x,W,rfl⟩)
 simpa using this
def TagV(l:List DV)(v:DZ):Prop:=∃H U W Z c4 c5 c6,(∀u∈[H,U,W,Z,c4,c5,c6],u.oneCell'=true)/\v=.tuple #[.agg #[H,U,W,Z,c4,c5,c6],ii (tagE l)]
theorem qahw(s:DV)(hs:s.size<=65536)(w:DU)(hM:MaxLenAt w):
  Gv Eg 141 [.string s] w λv w'=>TagV (qbn s) v/\Ext w w':=by
 obtain⟨p1,p2⟩:=qom s;obtain⟨l,hl⟩:∃l,l=qbn s:=⟨_,rfl⟩
 rw[<-hl]at p1 p2;refine ze Tryz.func141 Tryz.ntmps141 ?_;refine znm (Mem.nil w) λrt w1 af=>zw ?_;refine zcv (q6p s Oo w1 (hM.ext af.ext)) ?_;rintro v w2 ⟨pb,rfl,hS,ak⟩;rw[<-hl]at hS|-;have ad:=af.call ak;(conv=>whnf);refine znm (Mem.nil w2) ?_;intro rb w3 al;have h0:RS w2 w3 [rb] rb l (some ⟨pb,0,none⟩) l.length (.slice none 0 0) (.slice none 0 0) [(rb,rdC (some ⟨pb,0,none⟩) l.length l.length (tagC ⟨#[]⟩ ⟨#[]⟩ ⟨#[]⟩ ⟨#[]⟩ (.slice none 0 0) (.slice none 0 0) ⟨#[]⟩))] []:=
  ⟨al,⟨_,_,_,_,_,AV ..⟩,RowsP.none_,hS,Ai _,AV ..,λg hg=>by obtain rfl:=Ak.1 hg;exact⟨_,AV ..⟩,λx hx=>by have:=p1 x hx;omega,⟨⟨_,_,_,rfl⟩,⟨_,_,_,rfl⟩⟩⟩
 (conv=>whnf);refine zcv (qjw qf6 h0 (λx w1 _=>by
  refine(qhi x w1).mono ?_;rintro v w' ⟨rfl,rfl⟩;exact⟨rfl,xr⟩)) ?_
 rintro v w6 ⟨rfl,h4⟩;(conv=>whnf);cases hq:seeB qf6 l
 case' true=>
  refine zv ?_;obtain⟨l1,A1,c1,V1,E1,L1,e1,g1,d1⟩:∃l1 A1 c1 V1 E1 L1,tagR l=some l1/\RS w2 w6 [rb] rb l1 A1 c1 V1 E1 L1 []/\l1.length<=1000000:=⟨l,_,_,_,_,_,by rw[tagR,Ad hq],h4,by omega⟩
  clear hq h4 h0
 case' false=>
  have eT:tagR l=(qe3 l).bind qjs:=by rw[tagR,Aa (by rw[hq];simp)]
  refine zv ?_;refine zcv (qsl rb 0 l _ _ ⟨#[]⟩ ⟨#[]⟩ ⟨#[]⟩ ⟨#[]⟩ _ _ w2 w6 _ h4.mem rfl hS znr h4.small) ?_;rintro v w5 (⟨e2,rfl,am⟩|⟨l2,e2,rfl,A2,c2,b0,b1,an,ao,aq⟩)
  ·rw[e2]at eT;refine zu ?_;refine StoreA.mem (ad.call am) (i:=0) rfl (Ai 7) qet λw9 H=>zw ?_;refine qi (R:=λv w'=>TagV l v/\Ext w w') (zw ?_);refine zl H 0 ?_;exact⟨⟨_,_,_,_,_,_,_,qet,by rw[qd0 (λh=>by obtain⟨l1,h1,_⟩:=h;rw[eT]at h1;cases h1)];rfl⟩,H.ext⟩
  rw[e2]at eT;have h5:RS w2 w5 [rb] rb l2 A2 c2 (.slice none 0 0) (.slice none 0 0) [(rb,rdC A2 l2.length c2 (tagC b0 b1 ⟨#[]⟩ ⟨#[]⟩ (.slice none 0 0) (.slice none 0 0) ⟨#[]⟩))] []:=
   ⟨aq,⟨_,_,_,_,_,AV ..⟩,RowsP.none_,an,ao,AV ..,λg hg=>by obtain rfl:=Ak.1 hg;exact⟨_,AV ..⟩,λx hx=>by have:=p1 x (q4f e2 x hx);omega,⟨⟨_,_,_,rfl⟩,⟨_,_,_,rfl⟩⟩⟩
  refine zu ?_;refine zcv (qaaz rb [rb] l2 A2 c2 w2 w5 _ h5 (by have:=ql5 e2;omega)) ?_;rintro v w6 (⟨e3,rfl,ar⟩|⟨l3,e3,rfl,A3,c3,V3,E3,L3,h6,ay,_⟩)
  ·have eT:tagR l=none:=by rw[eT];exact e3
   refine zu ?_;refine StoreA.mem (ad.call ar) (i:=0) rfl (Ai 7) qet λw9 H=>zw ?_;refine qi (R:=λv w'=>TagV l v/\Ext w w') (zw ?_);refine zl H 0 ?_;exact⟨⟨_,_,_,_,_,_,_,qet,by rw[qd0 (λh=>by obtain⟨l1,h1,_⟩:=h;rw[eT]at h1;cases h1)];rfl⟩,H.ext⟩
  obtain⟨l1,A1,c1,V1,E1,L1,e1,g1,d1⟩:∃l1 A1 c1 V1 E1 L1,tagR l=some l1/\RS w2 w6 [rb] rb l1 A1 c1 V1 E1 L1 []/\l1.length<=1000000:=⟨l3,_,_,_,_,_,by rw[eT];exact e3,h6,by have:=ql5 e2;omega⟩
  clear hq h4 h0 eT e2 h5 e3 h6;refine zu ?_
 all_goals
  refine zcv (qjw qf6 g1 (λx w1 _=>by
   refine(qhi x w1).mono ?_;rintro v w' ⟨rfl,rfl⟩;exact⟨rfl,xr⟩)) ?_
  rintro v w7 ⟨rfl,g2⟩;cases ae:seeB qf6 l1
  ·have U:qpq l1↔l1=[]:=by rw[qpq,Aa (by rw[ae];simp)]
   refine zu ?_;obtain⟨a0,a1,a2,a3,a6,W⟩:=id g2.rd;refine LoadV.of (v:=.slice A1 l1.length c1) (by have:=g2.mem.get W;rw[rdC]at this;rw[qa this];rfl) (zw ?_)
   (repeat' refine zC (λ_=>zw ?_) (λ_=>zw ?_))
   ·skip
    refine StoreA.mem (ad.call g2.mem.ext) (i:=0) rfl (Ai 7) qet λw9 H=>zw ?_;refine qi (R:=λv w'=>TagV l v/\Ext w w') (zw ?_);refine zl H 0 ?_;exact⟨⟨_,_,_,_,_,_,_,qet,by rw[qd0 (λh=>by obtain⟨l2,h1,h2⟩:=h;rw[e1]at h1;cases h1;have e:=U.1 h2;have:l1.length=0:=(by rw[e];rfl);omega)];rfl⟩,H.ext⟩
   ·skip
    obtain⟨⟨VA,vn,vc,rfl⟩,⟨EA,en,ec,rfl⟩⟩:=id g2.vs;obtain⟨z0,z1,z2,z3,z6,W⟩:=id g2.rd;refine qyv g2.mem W rfl rfl (zw ?_);refine StoreA.mem (ad.call g2.mem.ext) (i:=0) rfl (Ai 7) (tag7 g2.vs _ _ _ _ _) λw9 H=>zw ?_;refine qi (R:=λv w'=>TagV l v/\Ext w w') (zw ?_);refine zl H 0 ?_;exact⟨⟨_,_,_,_,_,_,_,tag7 ⟨⟨_,_,_,rfl⟩,⟨_,_,_,rfl⟩⟩ _ _ _ _ _,by rw[qnc ⟨l1,e1,U.2 (Dl.1 Oo)⟩];rfl⟩,H.ext⟩
  ·obtain⟨x,xs,rfl⟩:∃x xs,l1=x::xs:=by
    cases l1 with
    | nil=>cases ae
    | cons x xs=>exact⟨x,xs,rfl⟩
   have U:qpq (x::xs)↔xs≠[]/\xs.all qkj=true:=by rw[qpq,Ad ae];rfl
   refine zu ?_;refine zcv (qmc g2) ?_;rintro v w8 ⟨rfl,A8,c8,L8,g8,_⟩;(conv=>whnf);obtain⟨a0,a1,a2,a3,a6,W⟩:=id g8.rd;refine zcv (qyx (least:=1) g8.mem W g8.sl g8.hc g8.small (by simp at d1;omega)) ?_;rintro v w9 ⟨pre,Z,sT,hP,av,rfl,A9,c9,L9,ag,ah,aw⟩;have g9:=g8.step aw ⟨_,_,_,_,_,rfl⟩ ag ah (λy hy=>by rw[hP.eq];exact Ac _ hy) g8.vs;(conv=>whnf);have ai:xs≠[]/\xs.all qkj=true↔pre≠[]/\Z=[]:=by
    have ax:pre.all qkj=true:=hP.all;rw[hP.eq,Dh,ax,CH]
    constructor
    ·rintro⟨n1,n2⟩;have hr:Z=[]:=by
      cases Z with
      | nil=>rfl
      | cons y ys=>
       have:qkj y=false:=av;simp[this]at n2
     exact⟨λe=>n1 (by rw[e,hr];rfl),hr⟩
    ·rintro⟨n1,rfl⟩;exact⟨by simpa using n1,rfl⟩
   rw[ai]at U;have az:=g2.small x mh;have a4:=hP.size;have a5:pre.length<=1000000:=by have:=Ae List.length hP.eq;simp at this d1;omega
   by_cases hp:pre=[]
   ·rw[AM (by simp[hp])];refine zu ?_;refine StoreA.mem (ad.call g9.mem.ext) (i:=0) rfl (Ai 7) qet λw9 H=>zw ?_;refine qi (R:=λv w'=>TagV l v/\Ext w w') (zw ?_);refine zl H 0 ?_;exact⟨⟨_,_,_,_,_,_,_,qet,by rw[qd0 (λh=>by obtain⟨l2,h1,h2⟩:=h;rw[e1]at h1;cases h1;exact(U.1 h2).1 hp)];rfl⟩,H.ext⟩
   ·rw[AE (by simpa using hp)];refine zu ?_;refine⟨by omega,?_⟩;(conv=>whnf);obtain⟨a0,a1,a2,a3,a6,W⟩:=id g9.rd;refine qf7 g9.mem W 6 rfl (show 6<7 by decide) rfl ?_;intro a7 a8 aj;have aa:=g9.step aj ⟨_,_,_,_,_,rfl⟩ ag ah (λy hy=>hy) g9.vs;obtain⟨a0,a1,a2,a3,a6,W⟩:=id aa.rd;(conv=>whnf);refine LoadV.of (v:=.slice A9 Z.length c9) (by have:=aa.mem.get W;rw[rdC]at this;rw[qa this];rfl) (zw ?_)
    (repeat' refine zC (λ_=>zw ?_) (λ_=>zw ?_))
    ·skip
     refine StoreA.mem (ad.call aa.mem.ext) (i:=0) rfl (Ai 7) qet λw9 H=>zw ?_;refine qi (R:=λv w'=>TagV l v/\Ext w w') (zw ?_);refine zl H 0 ?_;exact⟨⟨_,_,_,_,_,_,_,qet,by rw[qd0 (λh=>by obtain⟨l2,h1,h2⟩:=h;rw[e1]at h1;cases h1;have e:=(U.1 h2).2;have:Z.length=0:=(by rw[e];rfl);omega)];rfl⟩,H.ext⟩
    ·skip
     obtain⟨⟨VA,vn,vc,rfl⟩,⟨EA,en,ec,rfl⟩⟩:=id aa.vs;obtain⟨z0,z1,z2,z3,z6,W⟩:=id aa.rd;refine qyv aa.mem W rfl rfl (zw ?_);refine StoreA.mem (ad.call aa.mem.ext) (i:=0) rfl (Ai 7) (tag7 aa.vs _ _ _ _ _) λw9 H=>zw ?_;refine qi (R:=λv w'=>TagV l v/\Ext w w') (zw ?_);refine zl H 0 ?_;exact⟨⟨_,_,_,_,_,_,_,tag7 ⟨⟨_,_,_,rfl⟩,⟨_,_,_,rfl⟩⟩ _ _ _ _ _,by rw[qnc ⟨_,e1,U.2 ⟨hp,Dl.1 Oo⟩⟩];rfl⟩,H.ext⟩
namespace V
theorem AppV.one{n:Nat}{t:DX}{i:TypeInfo}(ht:P.underlying t=some (.slice e))(hi:P.info? e=some i)(hz:i.zero=some z)(H:i.size=1)(U:z.cells.size=1)(W:i.bytes<=16)(h:Rw w0 w (.slice A n c) e 1 n xs ((nb,.cells #[x] e)::L))(hx:x.oneCell'=true)(hn:n+1<=8000000000000)(hk:∀A' c' w',Rw w0 w' (.slice A' (n+1) c') e 1 (n+1) (xs++[x]) L->K (.slice A' (n+1) c') w'):AppV P #[t,t] ty (.slice A n c) (.slice (some ⟨nb,0,none⟩) 1 1) w K:=by
 refine AppV.rw (news:=[x]) ht hi hz H U Od h rfl (λ_=>⟨nb,0,rfl,λk v hv=>?_⟩) (λu hu=>by simp at hu;rw[hu];exact hx) ?_ Oo (λA' c' w' h'=>hk A' c' w' h'.tail)
 ·rw[qa (h.mem.get mh),As]
  simpa using hv
 ·have:(n+1)*i.bytes<=8000000000000*16:=B8 hn W;omega
theorem Rw.ints{H:List Int}(h:Rw w0 w (.slice A H.length c) e 1 H.length (H.map (Value.int .i64)) L):SlAt zeI 1 w A H:=by
 refine⟨λU=>?_⟩;obtain⟨g,rfl,_,_,_,Z⟩:=h.cells (Cw.2 U);refine⟨g,0,rfl,λj x hx k v W=>?_⟩;cases k with
 | succ k=>simp[zeI]at W
 | zero=>
  simp only[zeI,AT,AR]at W;subst W;have:=Z j (ii x) (by rw[Ao,hx];rfl)
  simpa using this
theorem oneI(l:List Int):∀v∈l.map (Value.int .i64),v.oneCell'=true:=by
 intro v H;obtain⟨x,_,rfl⟩:=AF.1 H;rfl
end V
def rP:List (Int×Int):=(65,90)::(97,122)::basesP
def rbI:List Int:=rP.flatMap λx=>[x.1,x.2]
theorem qak7:∀i (h:i<rP.length),(rbI.map (Value.int .i64))[i*2]?=some (ii rP[i].1)/\(rbI.map (Value.int .i64))[i*2+1]?=some (ii rP[i].2):=by
 intro i h;have h:i<14:=h;obtain rfl|rfl|rfl|rfl|rfl|rfl|rfl|rfl|rfl|rfl|rfl|rfl|rfl|rfl:i=0\/i=1\/i=2\/i=3\/i=4\/i=5\/i=6\/i=7\/i=8\/i=9\/i=10\/i=11\/i=12\/i=13:=by omega
 all_goals exact⟨rfl,rfl⟩
theorem q5w(r:Int):rP.any (inP r)=qkh r:=by
 show(inP r (65,90)||(inP r (97,122)||basesP.any (inP r)))=qkh r;have:letN r=(inP r (65,90)||inP r (97,122)):=by
  rw[AU];simp[letN,inP];omega
 rw[qkh,this,Bool.or_assoc]
theorem V.buildV_arr{t:DX}{n:Nat}{i:TypeInfo}{H:List (Nat×DZ)}{l:Ee}{K:DZ->Prop}(hi:P.info? t=some i)(U:i.zero=some z)(W:P.underlying t=some (.array n e))(Z:hasT P e=true)(hf:qr9 (λk=>some (k*tsz P e,tsz P e)) z.cells.toList H=some l)(hk:K (.agg l.toArray)):qn5 P t H K:=by
 unfold qn5;simp only[hi,U,W,Z,hf,cond_true,qao];exact hk
namespace V
section
variable {P:DW} {n:Nat} {ρ:Eb} {w:DU}
theorem qadx{a b:Code}{Q:Exit->Eb->Ec}(h:qfm P n a (seqQ (qfm P n b Q) Q) ρ w):qfm P n (.seq a b) Q ρ w:=h
theorem quc{Q:Exit->Eb->Ec}(h:regV P n ops.toList (Q .normal) ops.toList ρ w):qfm P n (.region id ops false) Q ρ w:=h
theorem qakt{ops:List Oper}{Q:Eb->Ec}(h:Q ρ w):regV P n ops Q [] ρ w:=h
theorem qws{ops rest:List Oper}{Q:Eb->Ec}(U:o.guard=none)(h:opV P o ρ w λv w'=>putV n o.dst ρ v λH=>regV P n ops Q rest H w'):regV P n ops Q (o::rest) ρ w:=by
 unfold regV;rw[U];exact h
theorem q7u{K:Eb->Ec}{Q:Exit->Eb->Ec}(h:K ρ w):seqQ K Q .normal ρ w:=h
theorem qadw{v:DZ}{K:Eb->Prop}(H:Nat.blt d n=true)(h:K (upd ρ d v)):putV n (some d) ρ v K:=by
 unfold putV;simp only[H,cond_true];exact h
theorem qaca{t:DX}(H:o.op=.alloc t)(h:qw3 P t w K):opV P o ρ w K:=by
 unfold opV;rw[H];exact h
theorem qacc{t:DX}{x v:Operand}(H:o.op=.store t x v)(h:qzd P t (ev ρ x) (ev ρ v) w (execOp (ev ρ) o) K):opV P o ρ w K:=by
 unfold opV;rw[H];exact h
theorem qacb{t:DX}{H:Array (Nat×Operand)}{U:Option Tmp}{pos:String}{W:Array Edge}{gd:Option (Nat×Bool)}(h:qn5 P t (evp ρ H.toList) λv=>K v w):
  opV P { dst:=U,op:=.build t H,type:=ty,pos:=pos,after:=W,guard:=gd } ρ w K:=h
end
end V
theorem arrI:(Eg.info? 481).isSome=true:=by kernel_rfl
theorem arrZ:((Eg.info? 481).get arrI).zero=some (.agg (Array.replicate 28 (ii 0))):=by kernel_rfl
theorem arrF(ρ:Eb):qr9 (λk=>some (k*tsz Eg 3,tsz Eg 3)) (Value.cells (.agg (Array.replicate 28 (ii 0)))).toList (evp ρ (rbI.zipIdx.map λx=>(x.2,Operand.const (ii x.1))))=some (rbI.map (Value.int .i64)):=by kernel_rfl
theorem qtd(w:DU):Gv Eg 381 [] w λv w'=>v=.agg (rbI.map (Value.int .i64)).toArray/\Ext w w':=by
 refine gv Jk Tryz.func381 rfl Tryz.ntmps381 rfl ?_;refine qadx (quc ?_);refine qws rfl ?_;refine qaca rfl (zw ?_);refine znm (Mem.nil w) ?_;intro b Z U;dsimp only
 with_reducible refine qadw (d:=0) ?_ ?_
 ·exact rfl
 try dsimp only
 with_reducible refine qakt ?_
 with_reducible refine q7u ?_
 with_reducible refine qadx ?_
 with_reducible refine quc ?_
 with_reducible refine qws ?_ ?_
 ·exact rfl
 with_reducible refine qacb ?_
 with_reducible refine V.buildV_arr (e:=3) (n:=28) (i:=(Eg.info? 481).get arrI) (z:=.agg (Array.replicate 28 (ii 0))) (l:=rbI.map (Value.int .i64)) ?_ ?_ Tryz.underlying481 ?_ ?_ ?_
 ·exact(Bt _).symm
 ·exact arrZ
 ·kernel_rfl
 ·exact arrF _
 dsimp only
 with_reducible refine qadw (d:=1) ?_ ?_
 ·exact rfl
 try dsimp only
 with_reducible refine qws ?_ ?_
 ·exact rfl
 refine qacc (by rfl) (zw ?_);refine StoreA.mem (vs:=rbI.map (Value.int .i64)) U (i:=0) rfl (Ai 28) (oneI _) ?_;intro W H;replace H:Mem w W [(b,.cells (rbI.map (Value.int .i64)).toArray 481)]:=H;(conv=>whnf);refine qi (R:=λv w'=>v=.agg (rbI.map (Value.int .i64)).toArray/\Ext w w') (zw ?_);refine zL H 0 ?_;rw[qao];exact⟨rfl,H.ext⟩
theorem qlk{t:DX}(h:Mem w0 w ((b,.cells vs.toArray t fr)::L)):CellsAt w b 0 vs:=by
 intro k v H;rw[qa (h.get mh),As]
 simpa using H
theorem qvn(r:Int)(w:DU):Gv Eg 349 [ii r] w λv w'=>v=.bool (qkh r)/\Ext w w':=by
 refine ze Tryz.func349 Tryz.ntmps349 ?_;refine zcv (qtd w) ?_;rintro v w1 ⟨rfl,he⟩;(conv=>whnf);refine znm ((Mem.nil w).call he) λb w2 H=>zw ?_;refine StoreA.mem (vs:=rbI.map (Value.int .i64)) H (i:=0) rfl (Ai 28) (oneI _) ?_;intro w3 H;replace H:Mem w w3 [(b,.cells (rbI.map (Value.int .i64)).toArray 481)]:=H;(conv=>whnf);refine qk (λi:Nat=>[(0,ii r),(3,pp b),(4,ii (i*2:Nat))]) (λi W=>i<=14/\(rP.take i).any (inP r)=false/\Mem w W [(b,.cells (rbI.map (Value.int .i64)).toArray 481)]) (λi=>14-i) 0 fq ⟨by omega,rfl,H⟩ ?_;rintro i W aa ⟨h1,Z,H⟩;(conv=>whnf);refine zC (λ_=>zu ?_) (λ_=>zu ?_)
 ·have hi:i<rP.length:=show i<14 by omega
  obtain⟨b1,b2⟩:=qak7 i hi;have U:∀c,inP r rP[i]=c->(rP.take (i+1)).any (inP r)=c:=λc hc=>by
   rw[AX hi,DB,Z,List.any_cons,hc];simp
  refine LoadV.of (q2i (qlk H _ _ b1)) (zw ?_);refine zC (λ_=>zu ?_) (λ_=>zu ?_)
  ·refine⟨i*2+1,by omega,by omega,?_⟩;refine zu ?_;refine LoadV.of (qxj (qlk H _ _ b2)) (zw ?_);refine zt ?_;refine zC (λ_=>zu ?_) (λ_=>zu ?_)
   ·refine⟨Ae Value.bool ?_,H.ext⟩;rw[<-q5w];exact(List.any_eq_true.2 ⟨rP[i],AH hi,by simp[inP];omega⟩).symm
   ·exact⟨i+1,⟨rfl,rfl,Ae (Value.int .i64) Oo,trivial⟩,⟨by omega,U _ (by simp[inP];omega),H⟩,by omega⟩
  ·exact⟨i+1,⟨rfl,rfl,Ae (Value.int .i64) Oo,trivial⟩,⟨by omega,U _ (by simp[inP];omega),H⟩,by omega⟩
 ·refine⟨Ae Value.bool ?_,H.ext⟩;rw[<-q5w,<-Z,Am (show 14<=i by omega)]
theorem qg3(r:Int)(w:DU):Gv Eg 307 [ii r] w λv w'=>v=.bool (qg7 r)/\Ext w w':=by
 refine ze Tryz.func307 Tryz.ntmps307 ?_;refine zcv (qvn r w) ?_;rintro v U ⟨rfl,H⟩;(conv=>whnf);unfold qg7;cases qkh r
 ·refine zv ?_
  all_goals(refine⟨Ae Value.bool ?_,H⟩;rw[AU];simp;try omega)
 ·refine zv ?_
  all_goals(refine⟨Ae Value.bool ?_,H⟩;rw[AU];simp;try omega)
theorem qij(r:Int)(w:DU):Gv Eg 308 [ii r] w λv w'=>v=.bool (digN r)/\w'=w:=by
 refine ze Tryz.func308 Tryz.ntmps308 ?_;refine zC (λ_=>zu ?_) (λ_=>zu ?_)
 all_goals(refine⟨Ae Value.bool ?_,rfl⟩;rw[AU];simp[digN];try omega)
theorem qmq(r:Int)(w:DU):Gv Eg 350 [ii r] w λv w'=>v=.bool (qeb r)/\Ext w w':=by
 refine ze Tryz.func350 Tryz.ntmps350 ?_;refine zcv (qg3 r w) ?_;rintro v U ⟨rfl,H⟩;(conv=>whnf);unfold qeb;cases qg7 r
 ·refine zt ?_;refine zC (λ_=>zu ?_) (λ_=>zu ?_)
  all_goals try (
   refine zcv (qij r U) ?_;rintro v W ⟨rfl,rfl⟩;(conv=>whnf))
  all_goals cases Z:digN r
  all_goals(repeat'(first|refine zp ?_|refine zC (λ_=>zw ?_) (λ_=>zw ?_)))
  all_goals(refine⟨Ae Value.bool ?_,H⟩;rw[AU];simp;try omega)
 ·refine zv ?_
  all_goals(refine⟨Ae Value.bool ?_,H⟩;rw[AU];simp;try omega)
theorem qv2(s:DV)(hs:s.size<=4000000000000)(w:DU):
  Gv Eg 306 [.string s] w λv w'=>((scal s.data.toList=none/\v=.tuple #[.slice none 0 0,.bool false])\/
   (∃l A c,scal s.data.toList=some l/\v=.tuple #[.slice A l.length c,.bool true]/\SlAt zeI 1 w' A (l.map Int.ofNat)/\l.length<=s.size))/\Ext w w':=by
 refine ze Tryz.func306 Tryz.ntmps306 ?_;refine qk (λx:Nat×List Int×oA×Nat=>[(0,.string s),(4,.slice x.2.2.1 x.2.1.length x.2.2.2),(5,ii x.1)])
  (λx w2=>x.1<=s.size/\x.2.1.length<=x.1/\Rw w w2 (.slice x.2.2.1 x.2.1.length x.2.2.2) 3 1 x.2.1.length (x.2.1.map (Value.int .i64)) []/\(scal s.data.toList).map (·.map Int.ofNat)=(scal (s.data.toList.drop x.1)).map λl=>x.2.1++l.map Int.ofNat)
  (λx=>s.size-x.1) (0,[],none,0) fq ⟨by simp,by simp,Rw.nil (Mem.nil w),by simp⟩ ?_
 rintro⟨i,zs,B,d⟩ w2 af ⟨h1,h2,Z,H⟩;simp only at h1 h2 Z H;dsimp only;(conv=>whnf);refine zC (λ_=>zw ?_) (λ_=>zw ?_)
 ·refine zcv (qmr s i Oo Oo w2) ?_;rintro v w3 ⟨rfl,he⟩;have aa:=qi7 (s.data.toList.drop i);rw[qe0]at aa;have W:=Z.call he;(conv=>whnf);refine zC (λ_=>zw ?_) (λ_=>zw ?_)
  ·refine⟨.inl ⟨?_,rfl⟩,W.mem.ext⟩;rw[qio (qjb s i Oo) Oo]at H;cases U:scal s.data.toList with
   | none=>rfl
   | some l=>rw[U]at H;cases H
  ·refine NewV.rw W λnb w4 ad=>zw ?_;refine AppV.one (i:=_) (z:=ii 0) Tryz.underlying238 (Bt Jk).symm Jk Jk rfl (by decide +kernel) ad rfl Oo ?_;intro B' d' w5 ae;refine zu ?_;refine⟨(i+(decN (s.data.toList.drop i)).2,zs++[((decN (s.data.toList.drop i)).1:Int)],B',d'),⟨rfl,by simp only[zla];rfl,rfl,trivial⟩,⟨by simp only;omega,by simp only[zla,BC];omega,?_,?_⟩,by simp only;omega⟩
   ·simp only[zla,BC,AJ,AK,BN];exact ae
   ·simp only;rw[H,qga (qjb s i Oo) Oo,Ar];cases scal (s.data.toList.drop (i+(decN (s.data.toList.drop i)).2))with
    | none=>rfl
    | some l=>simp
 ·refine⟨?_,Z.mem.ext⟩;rw[AN Ys,scal]at H;cases U:scal s.data.toList with
  | none=>rw[U]at H;cases H
  | some l=>
   rw[U]at H;simp at H;subst H;refine .inr ⟨l,B,d,rfl,by simp,?_,by simpa using AI h2 h1⟩;exact Z.ints
theorem qdc{q:DY->Bool}(s:DV)(p:Nat)(H:p<s.size):(s.data.toList.take (p+1)).all q=((s.data.toList.take p).all q&&q (gb s p)):=by
 rw[qp2 (by simpa using H),Dh];simp[gb]
def digA(s:DV):Bool:=s.data.toList.all λc=>digN c.toNat
def letA(s:DV):Bool:=s.data.toList.all λc=>letN c.toNat
theorem q2z{s:DV}(hi:i<s.size)(h:digN (gb s i).toNat=false):digA s=false:=by
 rw[digA,CX];exact⟨gb s i,by rw[gb,Ah,zge (by simpa using hi)];exact AH _,by simpa using h⟩
theorem qafp{s:DV}(hi:i<s.size)(h:letN (gb s i).toNat=false):letA s=false:=by
 rw[letA,CX];exact⟨gb s i,by rw[gb,Ah,zge (by simpa using hi)];exact AH _,by simpa using h⟩
theorem qf4(s:DV)(Z:s.size<=140737488355328)(w:DU):Gv Eg 383 [.string s] w λv w'=>v=.bool (digA s)/\w'=w:=by
 refine ze Tryz.func383 Tryz.ntmps383 ?_;refine qk (λi:Nat=>[(0,.string s),(3,ii i)]) (λi U=>i<=s.size/\(s.data.toList.take i).all (λc=>digN c.toNat)=true/\U=w) (λi=>s.size-i) 0 fq ⟨by omega,rfl,rfl⟩ ?_;rintro i U W ⟨h1,H,rfl⟩;conv=>whnf
 (repeat'(first|refine zp ?_|refine zC (λ_=>zw ?_) (λ_=>zw ?_)))
 ·exact⟨by rw[q2z (i:=i) Oo (by simp[digN];omega)],rfl⟩
 ·exact⟨by rw[q2z (i:=i) Oo (by simp[digN];omega)],rfl⟩
 ·exact⟨i+1,fq,⟨by omega,by rw[qdc s i Oo,H];simp[digN];omega,rfl⟩,by omega⟩
 ·rw[Am Ys]at H;exact⟨by rw[digA,H],rfl⟩
theorem ql8(s:DV)(Z:s.size<=140737488355328)(w:DU):Gv Eg 384 [.string s] w λv w'=>v=.bool (letA s)/\w'=w:=by
 refine ze Tryz.func384 Tryz.ntmps384 ?_;refine qk (λi:Nat=>[(0,.string s),(3,ii i)]) (λi U=>i<=s.size/\(s.data.toList.take i).all (λc=>letN c.toNat)=true/\U=w) (λi=>s.size-i) 0 fq ⟨by omega,rfl,rfl⟩ ?_;rintro i U W ⟨h1,H,rfl⟩;conv=>whnf
 (repeat'(first|refine zp ?_|refine zC (λ_=>zw ?_) (λ_=>zw ?_)))
 all_goals first
  | exact⟨by rw[qafp (i:=i) Oo (by simp[letN];omega)],rfl⟩
  | exact⟨i+1,fq,⟨by omega,by rw[qdc s i Oo,H];simp[letN];omega,rfl⟩,by omega⟩
  | (rw[Am Ys]at H;exact⟨by rw[letA,H],rfl⟩)
theorem q5h{s:DV}(h:i<s.size):(s.extract i (i+1)).data.toList=[gb s i]:=by
 have:(s.extract i (i+1)).data.toList=(s.data.toList.drop i).take 1:=by
  rw[Cy,D8,List.extract_eq_take_drop,BJ]
 rw[this,qa7 s i h];rfl
theorem qyo{s:DV}(h:i<s.size):(s.extract i (i+1)).size=1:=by
 rw[BM];omega
theorem qagh{s:DV}(h:i<s.size):letA (s.extract i (i+1))=letN (gb s i).toNat:=by rw[letA,q5h h];simp
theorem q5g{s:DV}(h:i<s.size):digA (s.extract i (i+1))=digN (gb s i).toNat:=by rw[digA,q5h h];simp
theorem q99{s:DV}{p:Bool}(H:i<s.size)(h:alnB p (gb s i)=false):qaa s lo hi p=false:=by
 have:s.data.toList.all (alnB p)=false:=by
  rw[CX];exact⟨gb s i,by rw[gb,Ah,zge (by simpa using H)];exact AH _,by simpa using h⟩
 rw[qaa,this];rfl
theorem qhy(s:DV)(lo hi:Nat)(hs:s.size<=140737488355328)(w:DU):Gv Eg 357 [.string s,ii lo,ii hi] w λv w'=>v=.bool (qaa s lo hi false)/\w'=w:=by
 refine ze Tryz.func357 Tryz.ntmps357 ?_;refine qk (λi:Nat=>[(0,.string s),(1,ii lo),(2,ii hi),(7,ii i)]) (λi U=>i<=s.size/\(s.data.toList.take i).all (alnB false)=true/\U=w) (λi=>s.size-i) 0 fq ⟨by omega,rfl,rfl⟩ ?_;rintro i U aa ⟨h1,H,rfl⟩;conv=>whnf
 (repeat'(first|refine zp ?_|refine zC (λ_=>zw ?_) (λ_=>zw ?_)))
 ·have hi:i<s.size:=by omega
  have ad:=qyo hi;refine⟨i,i+1,rfl,rfl,by omega,by omega,?_⟩;(conv=>whnf);refine zcv (ql8 (s.extract i (i+1)) Oo U) ?_;rintro v w2 ⟨rfl,rfl⟩;rw[qagh hi];cases W:letN (gb s i).toNat
  ·refine zu ?_;refine⟨i,i+1,rfl,rfl,by omega,by omega,?_⟩;refine zu ?_;refine zcv (qf4 (s.extract i (i+1)) Oo w2) ?_;rintro v w3 ⟨rfl,rfl⟩;rw[q5g hi];cases Z:digN (gb s i).toNat
   ·refine zu ?_;exact⟨by rw[q99 hi (by rw[alnB,W,Z];rfl)],rfl⟩
   ·refine zu ?_;exact⟨i+1,fq,⟨by omega,by rw[qdc s i hi,H,alnB,W,Z];rfl,rfl⟩,by omega⟩
  ·refine zu ?_;exact⟨i+1,fq,⟨by omega,by rw[qdc s i hi,H,alnB,W];rfl,rfl⟩,by omega⟩
 all_goals
  rw[Am Ys]at H;have hM:qaa s lo hi false=decide (lo<=s.size/\s.size<=hi):=by rw[qaa,H];rfl
 ·exact⟨Ae Value.bool (by rw[hM,AU];simp;omega),rfl⟩
 ·exact⟨Ae Value.bool (by rw[hM,eq_comm,decide_eq_false_iff_not];omega),rfl⟩
theorem qnu(s:DV)(W:s.size<=140737488355328)(w:DU):Gv Eg 356 [.string s] w λv w'=>v=.bool (varB s)/\w'=w:=by
 refine ze Tryz.func356 Tryz.ntmps356 ?_;refine zcv (qhy s 5 8 W w) ?_;rintro v Z ⟨rfl,rfl⟩;cases H:qaa s 5 8 false
 ·refine zu ?_;refine zcv (qhy s 4 4 W Z) ?_;rintro v w2 ⟨rfl,rfl⟩;cases U:qaa s 4 4 false
  ·refine zu ?_;exact⟨by rw[varB,H,U];rfl,rfl⟩
  ·have aa:s.size=4:=by
    simp[qaa]at U;omega
   have h1:=qyo (s:=s) (i:=0) Oo;refine zu ?_;refine⟨0,1,rfl,rfl,by omega,by omega,?_⟩;refine zu ?_;refine zcv (qf4 (s.extract 0 1) (by show(s.extract 0 (0+1)).size<=_;omega) w2) ?_;rintro v w3 ⟨rfl,rfl⟩;refine zu ?_;exact⟨by rw[varB,H,U,q5g (s:=s) (i:=0) Oo];rfl,rfl⟩
 ·refine zu ?_;exact⟨by rw[varB,H];rfl,rfl⟩
def glue(H:LB):List LB->List LB
 | []=>[]
 | p::U=>(H++p)::U
theorem qmm:∀l:LB,∃p H,qb0 l=p::H
 | []=>⟨_,_,rfl⟩
 | c::t=>by
  unfold qb0
  split
  ·exact⟨_,_,rfl⟩
  ·split<;>exact⟨_,_,rfl⟩
theorem q3o(H t:LB):glue H (qb0 (45::t))=[H]++glue [] (qb0 t):=by
 obtain⟨p,U,h⟩:=qmm t;rw[qb0,Ad rfl,h];simp[glue]
theorem q3p(H t:LB){c:DY}(U:c≠45):glue H (qb0 (c::t))=glue (H++[c]) (qb0 t):=by
 obtain⟨p,W,h⟩:=qmm t;rw[qb0,Aa U,h];simp[glue]
theorem qpt(s:DV)(a b:Nat):(s.extract a b).data.toList=(s.data.toList.drop a).take (b-a):=by
 rw[Cy,D8,List.extract_eq_take_drop]
theorem qpm:∀{l m:List DV},l.map (·.data.toList)=m.map (·.data.toList)->l=m
 | [],[],_=>rfl
 | [],_::_,h=>by simp at h
 | _::_,[],h=>by simp at h
 | a::l,b::m,h=>by
  simp only[AK,List.cons.injEq]at h;obtain⟨H,U⟩:=h;obtain⟨⟨a⟩⟩:=a;obtain⟨⟨b⟩⟩:=b;simp only at H;rw[H,qpm U]
theorem qv9:Eg.underlying 159=some (.slice 9):=Tryz.underlying159
theorem qth(s:DV)(hs:s.size<=1000000)(w:DU):
  Gv Eg 351 [.string s] w λv w'=>∃A c,v=.slice A (qbn s).length c/\Rw w w' (.slice A (qbn s).length c) 9 1 (qbn s).length ((qbn s).map Value.string) []:=by
 obtain⟨L,hL⟩:∃L,L=s.data.toList:=⟨_,rfl⟩
 have ae:L.length=s.size:=by rw[hL];simp
 have aa:∀done:List DV,qb0 L=done.map (·.data.toList)->done=qbn s:=λdone h=>qpm (by rw[<-h,hL,qmn])
 refine ze Tryz.func351 Tryz.ntmps351 ?_;refine qk (λx:Nat×Nat×List DV×oA×Nat=>[(0,.string s),(3,.slice x.2.2.2.1 x.2.2.1.length x.2.2.2.2),(4,ii x.2.1),(5,ii x.1)])
  (λx w2=>x.1<=s.size/\x.2.1<=x.1/\x.2.2.1.length<=x.1/\Rw w w2 (.slice x.2.2.2.1 x.2.2.1.length x.2.2.2.2) 9 1 x.2.2.1.length (x.2.2.1.map Value.string) []/\
   qb0 L=x.2.2.1.map (·.data.toList)++glue ((L.drop x.2.1).take (x.1-x.2.1)) (qb0 (L.drop x.1)))
  (λx=>s.size-x.1) (0,0,[],none,0) fq ⟨by simp,by simp,by simp,Rw.nil (Mem.nil w),by
   obtain⟨p,ps,h⟩:=qmm L;simp[glue,h]⟩ ?_
 rintro⟨i,fr,done,B,d⟩ w2 af ⟨h1,h2,h3,hR,U⟩;simp only at h1 h2 h3 hR U;dsimp only;conv=>whnf
 (repeat'(first|refine zp ?_|refine zC (λ_=>zw ?_) (λ_=>zw ?_)))
 ·have hi:i<s.size:=by omega
  have H:L.drop i=gb s i::L.drop (i+1):=by rw[hL];exact qa7 s i hi
  rw[H,show gb s i=45 by rw[<-Cc];show _=45;omega,q3o]at U;refine⟨fr,i,rfl,rfl,by omega,by omega,?_⟩;refine NewV.rw hR ?_;intro nb w4 W;refine AppV.one qv9 strI strZ Jk rfl (by decide +kernel) W rfl Oo ?_;intro B' d' w5 Z;refine zu ?_;refine⟨(i+1,i+1,done++[s.extract fr i],B',d'),⟨rfl,by simp only[zla];rfl,rfl,rfl,trivial⟩,⟨by simp only;omega,by simp only;omega,by simp;omega,?_,?_⟩,by simp only;omega⟩
  ·simp only[zla,BC,AJ,AK,BN];exact Z
  ·simp only[AJ,AK,BN,qpt,BU,BH];rw[U,<-hL,Aw]
 ·have hi:i<s.size:=by omega
  have H:L.drop i=gb s i::L.drop (i+1):=by rw[hL];exact qa7 s i hi
  have hc:gb s i≠45:=λe=>by
   have:(gb s i).toNat=45:=by rw[e];rfl
   omega
  rw[H,q3p _ _ hc]at U;refine⟨(i+1,fr,done,B,d),fq,⟨by simp only;omega,by simp only;omega,by simp only;omega,hR,?_⟩,by simp only;omega⟩;simp only;rw[U]
  congr 2
  have e:i+1-fr=(i-fr)+1:=by omega
  rw[e,BD]
  congr 1
  rw[Cn,show fr+(i-fr)=i by omega];have:=Ae List.head? H;rw[List.head?_drop]at this;rw[this];rfl
 ·rw[AN (show L.length<=i by omega)]at U;refine⟨fr,s.size,rfl,rfl,by omega,by omega,?_⟩;refine NewV.rw hR ?_;intro nb w4 W;refine AppV.one qv9 strI strZ Jk rfl (by decide +kernel) W rfl Oo ?_;intro B' d' w5 Z;have hd:=aa (done++[s.extract fr s.size]) (by
   rw[U];simp only[AJ,AK,BN,qpt,<-hL,show i=s.size by omega];simp[glue,qb0])
  rw[<-hd];have ad:Rw w w5 (.slice B' (done++[s.extract fr s.size]).length d') 9 1 (done++[s.extract fr s.size]).length ((done++[s.extract fr s.size]).map Value.string) []:=by
   simp only[zla,BC,AJ,AK,BN];exact Z
  exact⟨B',d',by rw[zla];rfl,ad⟩
def jn:List DV->LB
 | []=>[]
 | x::xs=>x.data.toList++xs.flatMap λy=>45::y.data.toList
theorem qafj(l:List DV)(x:DV):jn (l++[x])=if l=[]then x.data.toList else jn l++([45]++x.data.toList):=by
 cases l with
 | nil=>simp[jn]
 | cons y H=>simp[jn]
theorem qxq:∀(l:List DV),(∀x∈l,x.size<=1000000)->(l.flatMap λy=>(45:DY)::y.data.toList).length<=l.length*1000001
 | [],_=>by simp
 | x::l,h=>by
  have:=qxq l λy H=>h y (zmc H)
  have U:=h x mh;have e:x.data.toList.length=x.size:=by simp
  rw[List.flatMap_cons,zla,AC,AC,e];omega
theorem qai6(l:List DV)(h:∀x∈l,x.size<=1000000):(jn l).length<=l.length*1000001:=by
 cases l with
 | nil=>simp[jn]
 | cons x l=>
  have:=qxq l λy H=>h y (zmc H)
  have U:=h x mh;have e:x.data.toList.length=x.size:=by simp
  rw[jn,zla,AC,e];omega
theorem qgm(l:List DV)(A:oA)(c:Nat)(w:DU)(hS:SlAt V.zeS 1 w A l)(U:∀x∈l,x.size<=1000000)(hn:l.length<=1000000):
  Gv Eg 382 [.slice A l.length c] w λv w'=>v=.string ⟨(jn l).toArray⟩/\Ext w w':=by
 refine ze Tryz.func382 Tryz.ntmps382 ?_;refine qk (λx:Nat×oA×Nat=>[(0,.slice A l.length c),(3,.slice x.2.1 (jn (l.take x.1)).length x.2.2),(4,ii x.1)])
  (λx w2=>x.1<=l.length/\Rw w w2 (.slice x.2.1 (jn (l.take x.1)).length x.2.2) 5 1 (jn (l.take x.1)).length (byteCells (jn (l.take x.1))) [])
  (λx=>l.length-x.1) (0,none,0) fq ⟨by simp,Rw.nil (Mem.nil w)⟩ ?_
 rintro⟨k,B,d⟩ w2 ah ⟨h1,W⟩;simp only at h1 W;dsimp only;have aa:=qai6 (l.take k) (λx ae=>U x (D7 ae));rw[Az]at aa;conv=>whnf
 (repeat' refine zC (λ_=>zw ?_) (λ_=>zw ?_))
 ·have Z:k<l.length:=by omega
  refine NewV.rw W λnb w4 af=>zw ?_;refine AppV.one (i:=_) (z:=.int .u8 0) Tryz.underlying32 (Bt Jk).symm Jk Jk rfl (by decide +kernel) af rfl Oo ?_;intro B' d' w5 ad;refine ElemV.sl (hS.ext ad.mem.ext) rfl k rfl Z ?_;intro b off hc;refine LoadV.cell0 hc ?_;have ag:=U _ (AH Z);refine AppV.rwS (i:=_) Tryz.underlying32 Tryz.underlying9 (Bt Jk).symm Jk Jk Jk ad (λx U c fz=>by simp at U) Oo λv' w6 H=>?_;obtain⟨A',c',rfl⟩:=H.slice;refine zu ?_;have e:jn (l.take (k+1))=jn (l.take k)++([45]++(l[k]).data.toList):=by
   rw[AX Z,qafj,Aa (by intro e;have h9:=Ae List.length e;rw[Az,BO]at h9;omega)]
  have el:(jn (l.take (k+1))).length=(jn (l.take k)).length+1+(l[k]).size:=by rw[e];simp;omega
  refine⟨(k+1,A',c'),⟨rfl,by simp only[el];rfl,rfl,trivial⟩,⟨by simp only;omega,?_⟩,by simp only;omega⟩;simp only;rw[el,e,qb4,qb4,<-Aw];exact H
 ·have Z:k<l.length:=by omega
  obtain rfl:k=0:=by omega
  refine ElemV.sl (hS.ext W.mem.ext) rfl 0 rfl Z ?_;intro b off hc;refine LoadV.cell0 hc ?_;have ag:=U _ (AH Z);refine AppV.rwS (i:=_) Tryz.underlying32 Tryz.underlying9 (Bt Jk).symm Jk Jk Jk W (λx U c fz=>by simp at U) Oo λv' w6 H=>?_;obtain⟨A',c',rfl⟩:=H.slice;refine zu ?_;have e:jn (l.take (0+1))=jn (l.take 0)++(l[0]).data.toList:=by
   rw[AX Z];simp[jn]
  have el:(jn (l.take (0+1))).length=(jn (l.take 0)).length+(l[0]).size:=by rw[e];simp
  refine⟨(1,A',c'),⟨rfl,by simp only[el];rfl,rfl,trivial⟩,⟨by simp only;omega,?_⟩,by simp only;omega⟩;simp only;rw[show(1:Nat)=0+1 from rfl,el,e,qb4];exact H
 ·obtain rfl:k=l.length:=by omega
  rw[Cb]at W|-;refine BytesS.rw W (zw ?_);exact⟨rfl,W.mem.ext⟩
end Go.Proofs.YtccmcfpmknpccaaGreatDoor
