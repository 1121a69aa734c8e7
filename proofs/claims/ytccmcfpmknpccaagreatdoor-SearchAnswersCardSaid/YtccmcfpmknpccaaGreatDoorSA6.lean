/- Lemmas and contracts of functions on the way to the law's card (part 6 of 20). -/
import Derived.Test.YtccmcfpmknpccaaGreatDoorSA5
import Derived.Laws.Small
import Derived.Laws.StructEq
namespace Go.Proofs.YtccmcfpmknpccaaGreatDoor
set_option maxHeartbeats 8000000
open Go.RowKit V
set_option maxHeartbeats 8000000
set_option maxRecDepth 100000
variable {l:LB} {a b c g k off:Nat} {w w' w0:DU} {L:Ed} {P:DW} {ρ:Eb} {o:Oper} {K:Ea} {xo yo:Operand} {cs cur:Eh} {fr:Nat×Nat} {e:DX} {vs xs:Ee} {A:oA}
def curO(t:DX)(v:DZ)(H e:Nat):Obj:=.cells #[v,ii H,ii e] t
theorem qaap(b:Nat)(v:DZ)(H e:Nat)(l:LB)(w:DU)(hb:w.heap[b]?=some (curO 367 v H e))(hv:BS w v l)(ae:H<=l.length)(_:l.length<=140737488355328):
  Gv Eg 360 [pp b] w λr w'=>r=numV (numL (l.drop H))/\Ext w w':=by
 obtain⟨A,c,rfl,hc,hS⟩:=hv;refine ze Tryz.func360 Tryz.ntmps360 ?_;refine zy ?_;refine zv ?_;refine LoadV.own hb rfl (zu ?_);refine LoadV.own hb rfl (zu ?_);refine SliceV.bs hS rfl H l.length c rfl rfl rfl ae znr hc znr (λh=>by cases h) ?_;intro A' aa;refine zu ?_;have af:(l.drop H).take (l.length-H)=l.drop H:=Am Js;rw[af]at aa;obtain⟨m,hm⟩:∃m,m=l.drop H:=⟨_,rfl⟩
 have ag:m.length=l.length-H:=by rw[hm];simp
 rw[<-hm]at aa|-;have hx:=(Ext.refl w).drew;have hA:=aa.ext hx;refine qk (λx:Nat×Nat=>[(16,.slice A' (l.length-H) (c-H)),(17,ii (l.length-H:Nat)),(18,ii x.1),(5,.int .u64 x.2)]) (λx w1=>x.1<=m.length/\x.1<=9/\x.2<2 ^ (7*x.1)/\numL m=qf3 x.1 x.2 (m.drop x.1)/\Ext w.drew w1) (λx=>m.length-x.1) (0,0)
  fq ⟨by simp,by simp,by simp,by rw[BF];rfl,xr⟩ ?_
 rintro⟨i,n⟩ w1 aj ⟨h1,h9,hn,U,W⟩;dsimp only at h1 h9 hn U|-;(conv=>whnf);refine zC (λ_=>zw ?_) (λ_=>zw ?_)
 ·have hi:i<m.length:=by omega
  rw[qsg m i hi,qdh]at U;obtain⟨c0,ad⟩:∃c0,c0=m[i]:=⟨_,rfl⟩
  have ah:c0.toNat<256:=c0.toBitVec.isLt;rw[<-ad]at U;refine ElemV.bs (hA.ext W) ag i rfl Oo ?_;intro eb eo Z;rw[<-ad]at Z;(conv=>whnf);refine LoadV.of Z (zw ?_)
  (repeat'(first|refine zp ?_|refine zC (λ_=>zw ?_) (λ_=>zw ?_)))
  all_goals first
   | exact⟨by rw[U,Ad Oo];rfl,hx.trans W⟩
   | skip
  all_goals
   rw[Aa Oo]at U;obtain⟨g1,g2,g3⟩:=qi9 i n c0.toNat h9 hn ah Oo;refine Wit.eq (qay (k:=.u8) (m:=c0.toNat) 7 rfl ⟨by omega,by omega⟩ ⟨by omega,by omega⟩) (zu ?_);refine V.Wit.shlN (7*i) Oo (by show 7*i<64;omega) (qeu (by show c0.toNat%2 ^ 7*2 ^ (7*i)<_;rw[show 2 ^ 7=128 from rfl];omega)) (zw ?_);refine Wit.eq (qbr (7*i) (qeu g2) hn) (zw ?_)
   (repeat'(first|refine zp ?_|refine zC (λ_=>zw ?_) (λ_=>zw ?_)))
   all_goals first
    | (rw[Ad Oo]at U;exact⟨by rw[U];rfl,hx.trans W⟩)
    | (rw[Aa Oo]at U;exact⟨(i+1,n+c0.toNat%128*2 ^ (7*i)),fq,⟨by simp only;omega,by simp only;omega,g3 Oo,U,W⟩,by simp only;omega⟩)
 ·rw[AN Oo,qf3]at U;exact⟨by rw[U];rfl,hx.trans W⟩
theorem qkb:∀(l:LB) (i n:Nat),i<=9->n<2 ^ (7*i)->(qf3 i n l).1<2 ^ 64/\(qf3 i n l).2.1<=i+l.length/\((qf3 i n l).2.2=0\/(qf3 i n l).2.2=10\/(qf3 i n l).2.2=11)
 | [],i,n,_,_=>⟨show 0<2 ^ 64 by decide,by simp[qf3],.inr (.inl rfl)⟩
 | c::l,i,n,hi,W=>by
  rw[qdh]
  by_cases U:(i=9/\1<c.toNat)\/(0<i/\c.toNat=0)
  ·rw[Ad U];exact⟨by decide,Ag _,.inr (.inr rfl)⟩
  ·rw[Aa U];have H:c.toNat<256:=c.toBitVec.isLt;obtain⟨g1,Z,g3⟩:=qi9 i n c.toNat hi W H Oo
   by_cases V:c.toNat<128
   ·rw[Ad V];exact⟨Z,by simp only[AC];omega,.inl rfl⟩
   ·rw[Aa V];have:=qkb l (i+1) _ Oo (g3 Oo);refine⟨this.1,?_,this.2.2⟩;have:=this.2.1;simp only[AC];omega
theorem qbi(l:LB):(numL l).1<2 ^ 64/\(numL l).2.1<=l.length/\((numL l).2.2=0\/(numL l).2.2=10\/(numL l).2.2=11):=by
 have:=qkb l 0 0 Oo Od
 rwa[As]at this
def varS(l:LB)(H e:Nat):Nat×Nat×Nat:=if e≠0 then(0,H,e)else if(numL (l.drop H)).2.2≠0 then(0,H,(numL (l.drop H)).2.2)else((numL (l.drop H)).1,H+(numL (l.drop H)).2.1,0)
theorem qabx(b:Nat)(v:DZ)(H e:Nat)(l:LB)(w:DU)(V:w.heap[b]?=some (curO 367 v H e))(hv:BS w v l)(Z:H<=l.length)(hl:l.length<=140737488355328):
  Gv Eg 314 [pp b,.int .u64 18446744073709551615] w λr w'=>r=.int .u64 (varS l H e).1/\Upd w w' b (curO 367 v (varS l H e).2.1 (varS l H e).2.2):=by
 have aa:=qaap b v H e l w V hv Z hl;obtain⟨g1,g2,g3⟩:=qbi (l.drop H);rw[zld]at g2;have ae:2 ^ 64=18446744073709551616:=by decide
 refine ze Tryz.func314 Tryz.ntmps314 ?_;refine LoadV.own V rfl (zw ?_);refine zC (λ_=>zw ?_) (λ_=>zw ?_)
 ·have W:varS l H e=(0,H,e):=by rw[varS,Ad Oo]
  rw[W];exact⟨rfl,Upd.refl V⟩
 ·have ad:e=0:=by omega
  subst ad;refine zcv (aa) ?_;rintro r w1 ⟨rfl,he⟩;have U:=he.get V;have W:varS l H 0=if(numL (l.drop H)).2.2≠0 then(0,H,(numL (l.drop H)).2.2)else((numL (l.drop H)).1,H+(numL (l.drop H)).2.1,0):=by rw[varS,Aa Oo]
  (conv=>whnf);refine zC (λ_=>zu ?_) (λ_=>zu ?_)
  ·refine LoadV.own U rfl (zu ?_);refine StoreV.own U (show 1<3 by decide) rfl ?_;intro w2 hw;have hu:=(Upd.of V he).trans (Upd.set U hw);rw[W,Aa Oo];(conv=>whnf);exact⟨rfl,hu⟩
  ·refine StoreV.own U (show 2<3 by decide) rfl ?_;intro w2 hw;have hu:=(Upd.of V he).trans (Upd.set U hw);rw[W,Ad Oo];(conv=>whnf);exact⟨rfl,hu⟩
theorem qes(b:Nat)(v:DZ)(H e:Nat)(l:LB)(w:DU)(V:w.heap[b]?=some (curO 367 v H e))(W:BS w v l)(U:H<=l.length)(Z:l.length<=140737488355328):
  Gv Eg 233 [pp b] w λr w'=>r=.int .u64 (varS l H e).1/\Upd w w' b (curO 367 v (varS l H e).2.1 (varS l H e).2.2):=by
 refine ze Tryz.func233 Tryz.ntmps233 ?_;refine zcv (qabx b v H e l w V W U Z) ?_;rintro r w1 ⟨rfl,hu⟩;(conv=>whnf);exact⟨rfl,hu⟩
theorem qch(l:LB)(A:oA)(n c:Nat)(w:DU)(H:SlAt encB 1 w A l)(U:l.length=n)(V:l.length<=140737488355328):
  Gv Eg 180 [.slice A n c] w λv w'=>v=numV (numL l)/\w'=w:=by
 subst U;exact q0j l A c w H V
theorem q9d(b:Nat)(v:DZ)(H e x:Nat)(w:DU)(U:w.heap[b]?=some (curO 309 v H e))(V:e=0):
  Gv Eg 325 [pp b,ii x] w λr w'=>r=.tuple #[]/\Upd w w' b (curO 309 v H x):=by
 subst V;refine ze Tryz.func325 Tryz.ntmps325 ?_;refine LoadV.own U rfl (zu ?_);refine StoreV.own U (show 2<3 by decide) rfl λZ W=>zw ?_;exact⟨rfl,Upd.set U W⟩
theorem qvp(b:Nat)(v:DZ)(H e:Nat)(l:LB)(w:DU)(V:w.heap[b]?=some (curO 309 v H e))(hv:BS w v l)(aa:H<=l.length)(hl:l.length<=140737488355328):
  Gv Eg 250 [pp b,.int .u64 18446744073709551615] w λr w'=>r=.int .u64 (varS l H e).1/\Upd w w' b (curO 309 v (varS l H e).2.1 (varS l H e).2.2):=by
 obtain⟨A,c,rfl,hc,hS⟩:=hv;obtain⟨g1,g2,g3⟩:=qbi (l.drop H);rw[zld]at g2;have af:2 ^ 64=18446744073709551616:=by decide
 have ad:(l.drop H).take (l.length-H)=l.drop H:=Am Js;refine ze Tryz.func250 Tryz.ntmps250 ?_;refine LoadV.own V rfl (zw ?_);refine zC (λ_=>zw ?_) (λ_=>zw ?_)
 ·have hS:varS l H e=(0,H,e):=by rw[varS,Ad Oo]
  rw[hS];exact⟨rfl,Upd.refl V⟩
 ·have ae:e=0:=by omega
  subst ae;have hE:varS l H 0=if(numL (l.drop H)).2.2≠0 then(0,H,(numL (l.drop H)).2.2)else((numL (l.drop H)).1,H+(numL (l.drop H)).2.1,0):=by rw[varS,Aa Oo]
  refine zy ?_;refine zv ?_;refine LoadV.own V rfl (zu ?_);refine LoadV.own V rfl (zu ?_);refine SliceV.bs hS rfl H l.length c rfl rfl rfl aa znr hc znr (λh=>by cases h) ?_;intro A' W;rw[ad]at W;refine zu ?_;refine⟨numV (numL (l.drop H)),qch (l.drop H) A' _ _ _ (W.ext (Ext.refl w).drew) Js Ys,?_⟩;(conv=>whnf);refine zt ?_;refine zC (λ_=>zu ?_) (λ_=>zu ?_);have Z:Ext w w.drew:=(Ext.refl w).drew;have U:=Z.get V
  ·refine LoadV.own U rfl (zu ?_);refine StoreV.own U (show 1<3 by decide) rfl ?_;intro w2 hw;have hu:=(Upd.of V Z).trans (Upd.set U hw);rw[hE,Aa Oo];(conv=>whnf);exact⟨rfl,hu⟩
  ·have Z:Ext w w.drew:=(Ext.refl w).drew;have U:=Z.get V;refine zcv (q9d b _ H 0 (numL (l.drop H)).2.2 _ U rfl) ?_;rintro r w2 ⟨rfl,hu⟩;have hu:=(Upd.of V Z).trans hu;rw[hE,Ad Oo];(conv=>whnf);exact⟨rfl,hu⟩
theorem qqz(b:Nat)(v:DZ)(H e:Nat)(l:LB)(w:DU)(V:w.heap[b]?=some (curO 309 v H e))(W:BS w v l)(U:H<=l.length)(Z:l.length<=140737488355328):
  Gv Eg 178 [pp b] w λr w'=>r=.int .u64 (varS l H e).1/\Upd w w' b (curO 309 v (varS l H e).2.1 (varS l H e).2.2):=by
 refine ze Tryz.func178 Tryz.ntmps178 ?_;refine zcv (qvp b v H e l w V W U Z) ?_;rintro r w1 ⟨rfl,hu⟩;(conv=>whnf);exact⟨rfl,hu⟩
def leN:LB->Nat
 | []=>0
 | c::l=>c.toNat+256*leN l
theorem qx9(l:LB):leN l<256 ^ l.length:=by
 induction l with
 | nil=>decide
 | cons c l U=>
  have H:c.toNat<256:=c.toBitVec.isLt
  grind [leN]
theorem q4i(l m:LB):leN (l++m)=leN l+256 ^ l.length*leN m:=by
 induction l<;>grind [leN]
theorem q4h(h:4<=l.length):leN (l.take 4)=l[0].toNat+l[1].toNat*2 ^ 8+l[2].toNat*2 ^ 16+l[3].toNat*2 ^ 24:=by
 match l,h with
 | a::b::c::d::r,_=>grind [leN]
theorem qajj(h:2<=l.length):leN (l.take 2)=l[0].toNat+l[1].toNat*2 ^ 8:=by
 match l,h with
 | a::b::r,_=>grind [leN]
theorem qai{n:Nat}(h:n<9223372036854775808):InR .i64 (n:Int):=⟨by omega,by omega⟩
theorem q8(c:DY):c.toNat<256:=c.toBitVec.isLt
theorem qf1(l:LB)(A:oA)(n c:Nat)(w:DU)(hS:SlAt encB 1 w A l)(U:l.length=n)(h4:4<=l.length):
  Gv Eg 103 [.slice A n c] w λv w'=>v=ii (leN (l.take 4))/\Ext w w':=by
 have W:=hS.ext (Ext.refl w).drew;have b0:=q8 l[0];have b1:=q8 l[1];have b2:=q8 l[2];have b3:=q8 l[3];rw[q4h h4];refine ze Tryz.func103 Tryz.ntmps103 ?_;refine zy ?_;refine zv ?_;refine ElemV.bs W U 0 rfl Oo ?_;intro Z eo H;refine zu ?_;refine LoadV.of H (zu ?_);refine ElemV.bs W U 1 rfl Oo ?_;intro Z eo H;refine zu ?_;refine LoadV.of H (zu ?_);refine V.Wit.shlN 8 rfl Od (qai Oo) (zu ?_);refine Wit.eq (qbr 8 (qai Oo) b0) (zu ?_);refine ElemV.bs W U 2 rfl Oo ?_;intro Z eo H;refine zu ?_;refine LoadV.of H (zu ?_);refine V.Wit.shlN 16 rfl Od (qai Oo) (zu ?_);refine Wit.eq (qbr 16 (qai Oo) Oo) (zu ?_);refine ElemV.bs W U 3 rfl Oo ?_;intro Z eo H;refine zu ?_;refine LoadV.of H (zu ?_);refine V.Wit.shlN 24 rfl Od (qai Oo) (zu ?_);refine Wit.eq (qbr 24 (qai Oo) Oo) (zu ?_);exact⟨rfl,(Ext.refl w).drew⟩
theorem qp0(l:LB)(A:oA)(n c:Nat)(w:DU)(hS:SlAt encB 1 w A l)(U:l.length=n)(h4:4<=l.length):
  Gv Eg 299 [.slice A n c] w λv w'=>v=ii (leN (l.take 4))/\Ext w w':=by
 have W:=hS.ext (Ext.refl w).drew;have b0:=q8 l[0];have b1:=q8 l[1];have b2:=q8 l[2];have b3:=q8 l[3];rw[q4h h4];refine ze Tryz.func299 Tryz.ntmps299 ?_;refine zy ?_;refine zv ?_;refine ElemV.bs W U 0 rfl Oo ?_;intro Z eo H;refine zu ?_;refine LoadV.of H (zu ?_);refine ElemV.bs W U 1 rfl Oo ?_;intro Z eo H;refine zu ?_;refine LoadV.of H (zu ?_);refine V.Wit.shlN 8 rfl Od (qai Oo) (zu ?_);refine Wit.eq (qbr 8 (qai Oo) b0) (zu ?_);refine ElemV.bs W U 2 rfl Oo ?_;intro Z eo H;refine zu ?_;refine LoadV.of H (zu ?_);refine V.Wit.shlN 16 rfl Od (qai Oo) (zu ?_);refine Wit.eq (qbr 16 (qai Oo) Oo) (zu ?_);refine ElemV.bs W U 3 rfl Oo ?_;intro Z eo H;refine zu ?_;refine LoadV.of H (zu ?_);refine V.Wit.shlN 24 rfl Od (qai Oo) (zu ?_);refine Wit.eq (qbr 24 (qai Oo) Oo) (zu ?_);exact⟨rfl,(Ext.refl w).drew⟩
theorem qah0(l:LB)(A:oA)(n c:Nat)(w:DU)(Z:SlAt encB 1 w A l)(U:l.length=n)(h4:2<=l.length):
  Gv Eg 300 [.slice A n c] w λv w'=>v=ii (leN (l.take 2))/\Ext w w':=by
 have W:=Z.ext (Ext.refl w).drew;have b0:=q8 l[0];have b1:=q8 l[1];rw[qajj h4];refine ze Tryz.func300 Tryz.ntmps300 ?_;refine zy ?_;refine zv ?_;refine ElemV.bs W U 0 rfl Oo ?_;intro eb eo H;refine zu ?_;refine LoadV.of H (zu ?_);refine ElemV.bs W U 1 rfl Oo ?_;intro eb eo H;refine zu ?_;refine LoadV.of H (zu ?_);refine V.Wit.shlN 8 rfl Od (qai Oo) (zu ?_);refine Wit.eq (qbr 8 (qai Oo) b0) (zu ?_);exact⟨rfl,(Ext.refl w).drew⟩
theorem qajk(h:a+4<=l.length):leN ((l.drop a).take 4)=l[a].toNat+l[a+1].toNat*2 ^ 8+l[a+2].toNat*2 ^ 16+l[a+3].toNat*2 ^ 24:=by
 grind [q4h]
theorem qzh(l:LB)(A:oA)(n c a:Nat)(w:DU)(hS:SlAt encB 1 w A l)(U:l.length=n)(h4:a+4<=l.length)(hl:l.length<=140737488355328):
  Gv Eg 361 [.slice A n c,ii a] w λv w'=>v=ii (leN ((l.drop a).take 4))/\Ext w w':=by
 have W:=hS.ext (Ext.refl w).drew;have b0:=q8 l[a];have b1:=q8 l[a+1];have b2:=q8 l[a+2];have b3:=q8 l[a+3];rw[qajk h4];refine ze Tryz.func361 Tryz.ntmps361 ?_;refine zy ?_;refine zv ?_;refine ElemV.bs W U a rfl Oo ?_;intro Z eo H;refine zu ?_;refine LoadV.of H (zu ?_);refine ElemV.bs W U (a+1) Oo Oo ?_;intro Z eo H;refine zu ?_;refine LoadV.of H (zu ?_);refine V.Wit.shlN 8 rfl Od (qai Oo) (zu ?_);refine ElemV.bs W U (a+2) Oo Oo ?_;intro Z eo H;refine zu ?_;refine LoadV.of H (zu ?_);refine V.Wit.shlN 16 rfl Od (qai Oo) (zu ?_);refine ElemV.bs W U (a+3) Oo Oo ?_;intro Z eo H;refine zu ?_;refine LoadV.of H (zu ?_);refine V.Wit.shlN 24 rfl Od (qai Oo) (zu ?_);exact⟨Js,(Ext.refl w).drew⟩
namespace V
theorem Mem.fresh{o:Obj}(h:Mem w0 w L)(V:Ext w w')(W:w.heap.size<=b)(Z:w'.heap[b]?=some o):Mem w0 w' ((b,o)::L):=by
 have U:=h.call V;refine⟨U.ext,λx H=>?_,?_⟩
 ·rcases AB.1 H with rfl|H
  ·exact⟨AI h.ext.size W,Z⟩
  ·exact U.own x H
 ·simp only[AK,CR];refine⟨λhm=>?_,h.nodup⟩;obtain⟨x,H,e⟩:=AF.1 hm;have:=h.lt (b:=x.1) (o:=x.2) H;omega
theorem Fall.max2{c:Call}{k:IntKind}{x y:Int}(U:o.op=.call c)(V:c.callee=.builtin .max)(H:evs ρ c.args.toList=[.int k x,.int k y])(h:∀m,m=max x y->K (.int k m) w):Fall P (execOp (ev ρ) o) w K:=by
 have e:execOp (ev ρ) o=(do pure (.value (<-Builtin.max_ c.argTypes o.type (c.args.map (ev ρ))))):=by
  simp only[execOp,U,resolve,V];rfl
 have W:c.args.map (ev ρ)=#[.int k x,.int k y]:=by
  rw[qef]at H;rw[<-BA];simpa using H
 refine⟨.inl ⟨_,w,?_,h _ rfl⟩⟩;rw[e,W];simp only[Sem.run_bind,run_max_int2,Result.andThen_ok,Sem.run_pure]
 congr 3
 rw[Int.max_def]
 split<;>(try split)<;>omega
theorem Fall.min2{c:Call}{k:IntKind}{x y:Int}(U:o.op=.call c)(V:c.callee=.builtin .min)(H:evs ρ c.args.toList=[.int k x,.int k y])(h:∀m,m=min x y->K (.int k m) w):Fall P (execOp (ev ρ) o) w K:=by
 have e:execOp (ev ρ) o=(do pure (.value (<-Builtin.min_ c.argTypes o.type (c.args.map (ev ρ))))):=by
  simp only[execOp,U,resolve,V];rfl
 have W:c.args.map (ev ρ)=#[.int k x,.int k y]:=by
  rw[qef]at H;rw[<-BA];simpa using H
 refine⟨.inl ⟨_,w,?_,h _ rfl⟩⟩;rw[e,W];simp only[Sem.run_bind,run_min_int2,Result.andThen_ok,Sem.run_pure]
 congr 3
 rw[Int.min_def]
 split<;>(try split)<;>omega
end V
theorem qe8(v:DZ)(l:LB)(w:DU)(H:BS w v l):
  Gv Eg 159 [v] w λr w'=>∃b,r=pp b/\w.heap.size<=b/\w'.heap[b]?=some (curO 367 v 0 0)/\Ext w w':=by
 obtain⟨A,c,rfl,W,Z⟩:=H;refine ze Tryz.func159 Tryz.ntmps159 ?_;refine⟨λb w' U V=>?_⟩;subst U V;(conv=>whnf);exact⟨w.heap.size,rfl,Ai _,heap_alloc_new w _,(Ext.refl w).alloc _⟩
theorem qli(b:Nat)(v:DZ)(a e:Nat)(w:DU)(H:w.heap[b]?=some (curO 367 v a e)):Gv Eg 166 [pp b] w λr w'=>r=ii a/\w'=w:=by
 refine ze Tryz.func166 Tryz.ntmps166 ?_;refine LoadV.own H rfl (zw ?_);exact⟨rfl,rfl⟩
theorem qhe(b:Nat)(v:DZ)(a e:Nat)(w:DU)(H:w.heap[b]?=some (curO 367 v a e)):Gv Eg 234 [pp b] w λr w'=>r=ii e/\w'=w:=by
 refine ze Tryz.func234 Tryz.ntmps234 ?_;refine LoadV.own H rfl (zw ?_);exact⟨rfl,rfl⟩
theorem qya(b:Nat)(v:DZ)(a e:Nat)(l:LB)(w:DU)(H:w.heap[b]?=some (curO 367 v a e))(U:BS w v l)(V:a<=l.length)(W:l.length<=140737488355328):
  Gv Eg 313 [pp b] w λr w'=>r=ii (l.length-a:Nat)/\Ext w w':=by
 obtain⟨A,c,rfl,Z,hS⟩:=U;refine ze Tryz.func313 Tryz.ntmps313 ?_;refine zy ?_;refine zv ?_;refine LoadV.own H rfl (zu ?_);refine LoadV.own H rfl (zu ?_);exact⟨Ae (Value.int .i64) Oo,(Ext.refl w).drew⟩
theorem q0k(w:DU):Gv Eg 195 [ii 4] w λr w'=>r=ii 4/\w'=w:=by
 refine ze Tryz.func195 Tryz.ntmps195 ?_;refine V.Fall.max2 rfl rfl rfl λm H=>?_;obtain rfl:m=4:=by omega
 refine V.Fall.min2 rfl rfl rfl λm H=>?_;obtain rfl:m=4:=by omega
 (conv=>whnf);exact⟨rfl,rfl⟩
theorem qabo(b:Nat)(v:DZ)(a n:Nat)(l:LB)(w:DU)(Z:w.heap[b]?=some (curO 367 v a 0))(hv:BS w v l)(ha:a+n<=l.length)(hl:l.length<=140737488355328)(aa:∀A c,v=.slice A l.length c->True):
  Gv Eg 231 [pp b,ii n] w λr w'=>(∃A' c',r=.slice A' n c'/\SlAt encB 1 w A' ((l.drop a).take n))/\Upd w w' b (curO 367 v (a+n) 0):=by
 have U:=qya b v a 0 l w Z hv Oo hl;obtain⟨A,c,rfl,hc,hS⟩:=hv;refine ze Tryz.func231 Tryz.ntmps231 ?_;refine LoadV.own Z rfl (zu ?_);refine zcv (U) ?_;rintro r w1 ⟨rfl,he⟩;have V:=he.get Z;refine zu ?_;refine LoadV.own V rfl (zu ?_);refine StoreV.own V (show 1<3 by decide) rfl ?_;intro w2 hw;have hu:=(Upd.of Z he).trans (Upd.set V hw);have H:w2.heap[b]?=some (curO 367 (.slice A l.length c) (a+n) 0):=hu.at_;(conv=>whnf);refine zy ?_;refine zv ?_;refine LoadV.own H rfl (zu ?_);refine LoadV.own H rfl (zu ?_);refine LoadV.own H rfl (zu ?_);refine SliceV.bs hS rfl a (a+n) c (by show(((a+n:Nat):Int)-(n:Int))=(a:Int);omega) rfl rfl Oo ha Oo znr (λh=>by cases h) ?_;intro A' W;refine zu ?_;have e:a+n-a=n:=by omega
 rw[e]at W|-;exact⟨⟨A',_,rfl,W⟩,hu.trans (Upd.of H (Ext.refl w2).drew)⟩
def qaj(a b:TM):Bool:=decide (a.kind=b.kind)&&(seq a.text b.text&&(seq a.type b.type&&seq a.lang b.lang))
theorem q6{a b:TM}:qaj a b=true↔a=b:=by
 obtain⟨H,U,V,W⟩:=a;obtain⟨Z,b1,b2,b3⟩:=b;simp[qaj,qaf]
theorem qz2:Eg.underlying 45=some (.struct (Eg.fieldsOf 45)):=by kernel_rfl
theorem q6u:Eg.stoodInHeld 45=false:=by kernel_rfl
theorem q3s:Eg.eqGuardType Eg.depth 45=false:=by kernel_rfl
theorem qaz(d:Nat)(a b:TM)(w:DU):(Op.equalIn (d+2) 45 (qv a) (qv b)).run Eg w=.ok (qaj a b) w:=by
 have Z:=Tryz.underlying3;have a3:=Tryz.isAgg3;have z3:=Tryz.sizeOf3;have u9:=Tryz.underlying9;have a9:=Tryz.isAgg9;have z9:=Tryz.sizeOf9;simp only[qv];rw[run_equalIn_agg w (d+1) _ _ _ qz2 q6u];simp only[Program.fieldsOf,Tryz.underlying45]
 go_simp
 have e:∀x y:DV,(x.toList=y.toList)=(seq x y=true):=λx y=>by rw[<-qnz,Db]
 simp only[e]
 by_cases H:a.kind=b.kind<;>cases U:seq a.text b.text<;>cases V:seq a.type b.type<;>cases W:seq a.lang b.lang<;>simp[qaj,H,U,V,W]
namespace V
theorem RunV.eqTerm{H:BinOp}{a b:TM}(U:H=.eql\/H=.neq)(h:K (.bool (bif eqOp H then qaj a b else !qaj a b)) w):
  RunV Eg (do eqGuard H 45 xo yo (qv a) (qv b);binOp H 45 (qv a) (qv b)) w K:=by
 refine⟨_,w,?_,h⟩;rw[Sem.run_bind,qv,qv,run_eqGuard_agg w H _ xo yo _ _ q3s,Result.andThen_ok];have e:=qaz 9998 a b w;simp only[qv]at e
 rcases U with rfl|rfl
 ·rw[run_eql_struct,e];rfl
 ·rw[run_neq_struct,e];rfl
end V
def qwu(t:TM):Bool:=decide (t.kind=0)&&(seq t.text ⟨#[]⟩&&(seq t.type ⟨#[]⟩&&seq t.lang ⟨#[]⟩))
def canB(k:Nat)(t:TM):Bool:=
 if k=0 then decide (t.kind=1)||decide (t.kind=2)else if k=1 then decide (t.kind=1)else if k=2 then decide (1<=t.kind)&&decide (t.kind<=3)else qwu t||decide (t.kind=1)||decide (t.kind=2)
def qdq:Ef->Nat
 | []=>0
 | e::l=>if e≠0 then e else qdq l
theorem qe1{l:Ef}(h:∀j (H:j<l.length),l[j]=0):qdq l=0:=by
 induction l with
 | nil=>rfl
 | cons x l U=>
  have V:=h 0 Js;simp only[Ch]at V;rw[qdq,Aa Oo];exact U λj H=>by have:=h (j+1) Ys;rwa[Dr]at this
theorem qly{l:Ef}(U:k<l.length)(h:∀j (V:j<l.length),j<k->l[j]=0)(H:l[k]≠0):qdq l=l[k]:=by
 induction l generalizing k with
 | nil=>simp at U
 | cons x l W=>
  cases k with
  | zero=>simp only[Ch]at H|-;rw[qdq,Ad H]
  | succ k=>
   have Z:=h 0 Js Oo;simp only[Ch]at Z;rw[qdq,Aa Oo];simp only[Dr]at H|-;exact W (by simpa using U) (λj V aa=>by have:=h (j+1) Ys Oo;rwa[Dr]at this) H
theorem CellsAt.mem{t:DX}(h:Mem w0 w L)(hi:(b,Obj.cells cs t fr)∈L):CellsAt w b 0 cs.toList:=λk v H=>by
 rw[qa (h.get hi),As]
 simpa using H
namespace V
theorem StoreA.rwAll{v:DZ}{H n:Nat}{t:DX}{K:Ec}(h:Rw w0 w v e H n xs ((b,.cells cur t)::L))(hl:cur.size=vs.length)(h1:∀v∈vs,v.oneCell'=true)(U:∀w',Rw w0 w' v e H n xs ((b,.cells vs.toArray t)::L)->K w'):StoreA P w b 0 vs K:=by
 have W:=h.mem.get mh;have Z:v.ownBlock≠some b:=h.apart _ mh;have hr:=run_storeCells_at P b 0 t vs 0 cur w W Ys h1;have ec:(cur.toList.take (0+0)++vs++cur.toList.drop (0+0+vs.length)).toArray=vs.toArray:=by
  rw[BH,Bn,AN Ys,B4]
 rw[ec]at hr;refine⟨_,hr,U _ ⟨?_,?_,λy V=>?_⟩⟩
 ·have:=h.mem.set (i:=0) (b:=b) (o:=.cells cur t) (o':=.cells vs.toArray t) rfl (w':=w.setRow b vs.toArray) ?_ (qbw W) (λc hc=>qq hc)
  ·exact this
  ·exact Below.trans h.mem.ext ⟨rfl,rfl,rfl,by simp[World.setRow],λk U=>qq (by have:=(h.mem.own _ mh).1;simp only at this;omega)⟩
 ·refine h.own.kept (row:=some b) ⟨rfl,rfl,rfl,by simp[World.setRow],λk _ U=>qq (λe=>U (by simp[e]))⟩ (Or.inr Z)
 ·rcases AB.1 V with rfl|V
  ·exact Z
  ·exact h.apart y (zmc V)
end V
theorem q1g(k:Nat)(t:TM)(w:DU):Gv Eg 135 [ii k,qv t] w λv w'=>v=.bool (canB k t)/\Ext w w':=by
 refine ze Tryz.func135 Tryz.ntmps135 ?_;refine znm (Mem.nil w) λb W H=>zw ?_
 (repeat'(first|refine zp ?_|refine zC (λ_=>zw ?_) (λ_=>zw ?_)|refine LoadV.mem (i:=0) Oa rfl rfl (zw ?_)))
 ·exact⟨Ae Value.bool (by rw[canB,Ad Oo];simp[*]),H.ext⟩
 ·exact⟨Ae Value.bool (by rw[canB,Ad Oo];simp[*]),H.ext⟩
 ·exact⟨Ae Value.bool (by rw[canB,Aa Oo,Ad Oo]),H.ext⟩
 ·exact⟨Ae Value.bool (by rw[canB,Aa Oo,Aa Oo,Ad Oo,AU];simp;omega),H.ext⟩
 ·exact⟨Ae Value.bool (by rw[canB,Aa Oo,Aa Oo,Ad Oo,AU];simp;omega),H.ext⟩
 ·exact⟨Ae Value.bool (by rw[canB,Aa Oo,Aa Oo,Ad Oo,AU];simp;omega),H.ext⟩
 ·exact⟨Ae Value.bool (by rw[canB,Aa Oo,Aa Oo,Aa Oo];simp[*]),H.ext⟩
 ·exact⟨Ae Value.bool (by rw[canB,Aa Oo,Aa Oo,Aa Oo];simp[*]),H.ext⟩
 ·refine zl H 0 ?_;refine zv ?_;refine RunV.eqTerm (a:=t) (b:=⟨0,⟨#[]⟩,⟨#[]⟩,⟨#[]⟩⟩) (.inl rfl) ?_;have U:canB k t=(qwu t||decide (t.kind=1)||decide (t.kind=2)):=by rw[canB,Aa Oo,Aa Oo,Aa Oo]
  have V:qaj t ⟨0,⟨#[]⟩,⟨#[]⟩,⟨#[]⟩⟩=qwu t:=rfl;rw[V];refine zu ?_;exact⟨Ae Value.bool (by rw[U];simp[*,eqOp]),H.ext⟩
structure Q4 where
 s:TM
 p:TM
 o:TM
 g:TM
def Q4.at(q:Q4):Nat->TM
 | 0=>q.s
 | 1=>q.p
 | 2=>q.o
 | _=>q.g
def qf(q:Q4):Ee:=encT q.s++(encT q.p++(encT q.o++encT q.g))
def qy(q:Q4):DZ:=.agg #[ii q.s.kind,.string q.s.text,.string q.s.type,.string q.s.lang,ii q.p.kind,.string q.p.text,.string q.p.type,.string q.p.lang,
 ii q.o.kind,.string q.o.text,.string q.o.type,.string q.o.lang,ii q.g.kind,.string q.g.text,.string q.g.type,.string q.g.lang]
noncomputable def qE(k:Nat)(t:TM):Nat:=if canB k t=false then 70 else if k=3/\t.kind=0 then 0 else qap t
noncomputable def qbo(q:Q4):Nat:=qdq ((List.range 4).map λk=>qE k (q.at k))
theorem qm{q:Q4}(h:CellsAt w b off (qf q))(k:Nat)(U:k<4):CellsAt w b (off+k*4) (encT (q.at k)):=by
 intro j v H;have V:j<4:=(Af.1 H).1;have:=h (k*4+j) v (by
  obtain rfl|rfl|rfl|rfl:k=0\/k=1\/k=2\/k=3:=by omega
  all_goals
   obtain rfl|rfl|rfl|rfl:j=0\/j=1\/j=2\/j=3:=by omega
   all_goals exact H)
 rwa[<-C7]at this
theorem q9(t:TM):∀v∈encT t,v.oneCell'=true:=by
 intro v H;simp only[encT,AB,BQ,or_false]at H
 rcases H with rfl|rfl|rfl|rfl<;>rfl
def qa5(q:Q4):Prop:=∀k,TermOk (q.at k)
theorem qs9(q:Q4)(k:Nat)(H:k<4):((qy q).cells.toList.drop (k*4)).take 4=encT (q.at k):=by
 obtain rfl|rfl|rfl|rfl:k=0\/k=1\/k=2\/k=3:=by omega
 all_goals rfl
theorem qhz(q:Q4)(hq:qa5 q)(w:DU)(hM:MaxLenAt w)(hT:CellsAt w 4 0 qcb):Gv Eg 66 [qy q] w λv w'=>v=ii (qbo q)/\Ext w w':=by
 refine ze Tryz.func66 Tryz.ntmps66 ?_;refine znm (Mem.nil w) ?_;intro b w1 hm;have hc:CellsAt w1 b 0 (qf q):=CellsAt.mem hm mh;refine LoadA.cells (qm hc 0 Oo) rfl ?_;refine LoadA.cells (qm hc 1 Oo) rfl ?_;refine LoadA.cells (qm hc 2 Oo) rfl ?_;refine LoadA.cells (qm hc 3 Oo) rfl (zw ?_);have V:((List.range 4).map λk=>qE k (q.at k)).length=4:=by simp
 have H:∀j (hj:j<((List.range 4).map λk=>qE k (q.at k)).length),((List.range 4).map λk=>qE k (q.at k))[j]=qE j (q.at j):=λj hj=>by simp
 refine qk (λk:Nat=>[(1,pp b),(2,ii 0),(14,qy q),(15,ii k)])
  (λk w'=>k<=4/\(∀j,j<k->qE j (q.at j)=0)/\Mem w w' [(b,.cells (qf q).toArray 47)]) (λk=>4-k) 0 fq ⟨by omega,λj h0=>by omega,hm⟩ ?_
 rintro k w2 ak ⟨k1,k2,ae⟩;(conv=>whnf);refine zC (λ_=>zu ?_) (λ_=>zu ?_)
 ·have hk:k<4:=by omega
  have ad:∀e,qE k (q.at k)=e->e≠0->qbo q=e:=λe he ag=>by
   rw[qbo,qly (k:=k) (by rw[V];exact hk) (λj hj ah=>by rw[H];exact k2 j ah) (by rw[H,he];exact ag),H,he]
  have W:qE k (q.at k)=0->∀j,j<k+1->qE j (q.at j)=0:=λhe j hj=>by
   by_cases e:j=k
   ·subst e;exact he
   ·exact k2 j Oo
  refine Wit.eq (y:=encT (q.at k)) (qs9 q k hk) ?_;refine znm ae ?_;intro r w3 ai;refine StoreA.all (vs:=encT (q.at k)) ai (i:=0) rfl rfl (q9 _) ?_;intro w4 aa;have aa:Mem w w4 [(r,.cells (encT (q.at k)).toArray 45),_]:=aa;refine zl aa 0 ?_;refine zcv (q1g k (q.at k) w4) ?_;rintro v w5 ⟨rfl,aj⟩;have U:=aa.call aj;cases Z:canB k (q.at k)
  ·refine zu ?_;exact⟨by rw[ad 70 (by rw[qE,Ad Z]) Od];rfl,U.ext⟩
  ·(conv=>whnf)
   (repeat'(first|refine zp ?_|refine zC (λ_=>zw ?_) (λ_=>zw ?_)|refine LoadV.mem (i:=0) Oa rfl rfl (zw ?_)))
   ·refine⟨?_,U.ext⟩;have e0:qE k (q.at k)=0:=by rw[qE,Aa (by rw[Z];simp),Ad ⟨by omega,by omega⟩]
    have h4:=W e0;rw[qbo,qe1 λj hj=>by rw[H];exact h4 j (by rw[V]at hj;omega)];rfl
   all_goals
    have hE:qE k (q.at k)=qap (q.at k):=by rw[qE,Aa (by rw[Z];simp),Aa Oo]
    refine zl U 0 ?_;refine zcv (qit (q.at k) (hq k) w5 (hM.ext U.ext) (hT.ext U.ext)) ?_;rintro v w6 ⟨rfl,af⟩;rw[<-hE];conv=>whnf
    (repeat'(first|refine zp ?_|refine zC (λ_=>zw ?_) (λ_=>zw ?_)))
    ·exact⟨by rw[ad _ rfl Oo],U.ext.trans af⟩
    ·exact⟨k+1,fq,⟨by omega,W Oo,(U.call af).sub (AS ..)⟩,by omega⟩
 ·refine⟨?_,ae.ext⟩;rw[qbo,qe1 λj hj=>by rw[H];exact k2 j (by rw[V]at hj;omega)];rfl
theorem qkv(l:LB)(i:Nat)(h:i<l.length):leN (l.take (i+1))=leN (l.take i)+l[i].toNat*2 ^ (8*i):=by
 rw[AX h,q4i,Az,BG Oo];have:(256:Nat) ^ i=2 ^ (8*i):=by rw[Nat.pow_mul]
 rw[this,leN,leN,Nat.mul_zero,BB,Cf]
theorem qbx(l:LB)(i:Nat)(h:i<=l.length):leN (l.take i)<2 ^ (8*i):=by
 have:=qx9 (l.take i);rw[Az,BG h]at this;have e:(256:Nat) ^ i=2 ^ (8*i):=by rw[Nat.pow_mul]
 rwa[e]at this
theorem pow8(i:Nat)(hi:i<=4):2 ^ (8*i)<=4294967296:=by
 have:2 ^ (8*i)<=2 ^ 32:=AY Od Oo
 simpa using this
theorem V.SlAt.upd{t:DX}{o:Obj}(h:SlAt encB 1 w A l)(hb:w.heap[b]?=some (.cells cs t fr))(U:∀v∈cs.toList,∀n,v≠.int .u8 n)(hu:Upd w w' b o):SlAt encB 1 w' A l:=by
 refine⟨λV=>?_⟩;obtain⟨g,off,e,hc⟩:=h.at_ V;refine⟨g,off,e,λj x hx k v W=>?_⟩;have H:=hc j x hx k v W;have Z:v=.int .u8 x.toNat:=by
  cases k with
  | zero=>simpa[encB]using W.symm
  | succ k=>simp[encB]at W
 have aa:g<w.heap.size:=by
  rcases Bj g w.heap.size with h|h
  ·exact h
  ·unfold World.cell? at H;rw[CQ h]at H;cases H
 have ad:g≠b:=by
  rintro rfl;rw[qa hb]at H;exact U v (by rw[<-CU]at H;exact zmg H) _ Z
 unfold World.cell? at H|-;rw[hu.block g aa ad];exact H
theorem qaew{v:DZ}{e:Nat}(U:∃A n c,v=.slice A n c):∀u∈(#[v,ii a,ii e]:Eh).toList,∀n,u≠.int .u8 n:=by
 obtain⟨A,m,c,rfl⟩:=U;intro u H n;simp at H
 rcases H with rfl|rfl|rfl<;>simp
theorem qjf(b:Nat)(v:DZ)(a:Nat)(l:LB)(w:DU)(hb:w.heap[b]?=some (curO 367 v a 0))(hv:BS w v l)(ha:a+4<=l.length)(hl:l.length<=140737488355328):
  Gv Eg 160 [pp b,ii 4] w λr w'=>r=.int .u64 (leN ((l.drop a).take 4))/\Upd w w' b (curO 367 v (a+4) 0):=by
 have U:=λw=>qabo b v a 4 l w
 refine ze Tryz.func160 Tryz.ntmps160 ?_;refine zcv (q0k w) ?_;rintro r w1 ⟨rfl,rfl⟩;(conv=>whnf);refine zcv (U w1 hb hv ha hl (λ_ _ _=>trivial)) ?_;rintro r w2 ⟨⟨A',c',rfl,hS⟩,hu⟩;have W:=hv;obtain⟨A,c,Z,_,_⟩:=W;have H:SlAt encB 1 w2 A' ((l.drop a).take 4):=V.SlAt.upd hS hb (qaew ⟨_,_,_,Z⟩) hu;obtain⟨m,hm⟩:∃m,m=(l.drop a).take 4:=⟨_,rfl⟩
 have aa:m.length=4:=by rw[hm];simp;omega
 rw[<-hm]at H|-;refine qk (λi:Nat=>[(11,.slice A' 4 c'),(12,ii 4),(13,ii i),(5,.int .u64 (leN (m.take i)))]) (λi w3=>i<=4/\w3=w2) (λi=>4-i) 0 fq ⟨by omega,rfl⟩ ?_;rintro i w3 ae ⟨i1,rfl⟩;(conv=>whnf);refine zC (λ_=>zw ?_) (λ_=>zw ?_)
 ·have hi:i<m.length:=by omega
  have af:=q8 m[i];have hp:=pow8 (i+1) Oo;have ad:=qbx m (i+1) Oo;rw[qkv m i hi]at ad;refine ElemV.bs H aa i rfl Oo ?_;intro eb eo hc;refine LoadV.of hc (zu ?_);have ag:2 ^ 64=18446744073709551616:=by decide
  refine V.Wit.shlN (8*i) Oo (by show 8*i<64;omega) (qeu Oo) ?_;refine Wit.eq (qbr (8*i) (qeu Oo) (qbx m i Oo)) (zu ?_);exact⟨i+1,⟨rfl,rfl,rfl,by rw[qkv m i hi];rfl,trivial⟩,⟨by omega,rfl⟩,by omega⟩
 ·rw[Am Oo];exact⟨rfl,hu⟩
open Go.RowKit
def poly:BitVec 32:=0xedb88320#32
def nibs:Ef:=[0x00000000,0x1db71064,0x3b6e20c8,0x26d930ac,0x76dc4190,0x6b6b51f4,0x4db26158,0x5005713c,0xedb88320,0xf00f9344,0xd6d6a3e8,0xcb61b38c,0x9b64c2b0,0x86d3d2d4,0xa00ae278,0xbdbdf21c]
def nib(i:Nat):BitVec 32:=BitVec.ofNat 32 (nibs.getD i 0)
def qpe(r:BitVec 32)(d:Bool):BitVec 32:=(r >>> 1) ^^^ (if(r.getLsbD 0 ^^ d)=true then poly else 0#32)
def qed(r:BitVec 32):BitVec 32:=qpe r false
def half(r:BitVec 32):BitVec 32:=nib (r.toNat%16) ^^^ (r >>> 4)
theorem xlc(a b c:BitVec 32):a ^^^ (b ^^^ c)=b ^^^ (a ^^^ c):=by rw[<-BitVec.xor_assoc,BitVec.xor_comm a b,BitVec.xor_assoc]
theorem xss(a b:BitVec 32):a ^^^ (a ^^^ b)=b:=by rw[<-BitVec.xor_assoc,BitVec.xor_self,BitVec.zero_xor]
theorem qic(a b:BitVec 32):qed (a ^^^ b)=qed a ^^^ qed b:=by
 unfold qed qpe;rw[BitVec.ushiftRight_xor_distrib,BitVec.getLsbD_xor];cases a.getLsbD 0<;>cases b.getLsbD 0<;>simp[BitVec.xor_assoc,BitVec.xor_comm,xlc,xss]
theorem qzx(r d:BitVec 32):qed (r ^^^ d)=qpe r (d.getLsbD 0) ^^^ (d >>> 1):=by
 unfold qed qpe;rw[BitVec.ushiftRight_xor_distrib,BitVec.getLsbD_xor,Bool.xor_false,BitVec.xor_assoc,BitVec.xor_assoc,BitVec.xor_comm (d >>> 1)]
theorem qgp{h:BitVec 32}(H:h.getLsbD 0=false):qed h=h >>> 1:=by
 unfold qed qpe;rw[H];simp
theorem qva(h:BitVec 32)(H:h.getLsbD 0=false)(U:h.getLsbD 1=false)(V:h.getLsbD 2=false)(W:h.getLsbD 3=false):qed (qed (qed (qed h)))=h >>> 4:=by
 rw[qgp H,qgp (h:=h >>> 1) (by simpa using U),qgp (h:=h >>> 1 >>> 1) (by simpa using V),qgp (h:=h >>> 1 >>> 1 >>> 1) (by simpa using W)];rw[<-BitVec.shiftRight_add,<-BitVec.shiftRight_add,<-BitVec.shiftRight_add]
theorem q0h:∀i,i<16->qed (qed (qed (qed (BitVec.ofNat 32 i))))=nib i:=by decide
theorem qadc(r:BitVec 32):qed (qed (qed (qed r)))=half r:=by
 have U:r &&&15#32=BitVec.ofNat 32 (r.toNat%16):=by
  apply BitVec.eq_of_toNat_eq;rw[BitVec.toNat_and,BitVec.toNat_ofNat];have:r.toNat &&&15=r.toNat%2 ^ 4:=Dy r.toNat 4;show r.toNat &&&15=_;rw[this];have:=r.isLt;exact(BZ Oo).symm
 have H:r=(r &&&15#32) ^^^ (r &&&0xfffffff0#32):=by
  ext i hi
  simp only[BitVec.getElem_xor,BitVec.getElem_and];have:((15#32)[i] ^^ (0xfffffff0#32)[i])=true:=by
   have:∀i (hi:i<32),((15#32)[i] ^^ (0xfffffff0#32)[i])=true:=by decide
   exact this i hi
  cases r[i]<;>simp_all
 have W:(r &&&0xfffffff0#32) >>> 4=r >>> 4:=by
  ext i hi
  simp only[BitVec.getElem_ushiftRight,BitVec.getLsbD_and]
  by_cases h:4+i<32
  ·have:∀j,j<28->(0xfffffff0#32).getLsbD (4+j)=true:=by decide
   rw[this i Oo,CT]
  ·rw[BitVec.getLsbD_of_ge _ _ Oo];simp
 have V:∀j,j<4->(r &&&0xfffffff0#32).getLsbD j=false:=λj Z=>by
  rw[BitVec.getLsbD_and];have:∀j,j<4->(0xfffffff0#32).getLsbD j=false:=by decide
  rw[this j Z,Dp]
 conv=>lhs;rw[H]
 rw[qic,qic,qic,qic,qva _ (V 0 Od) (V 1 Od) (V 2 Od) (V 3 Od),W,U,q0h _ (Cu _ Od)];rfl
def q0t(r:BitVec 32)(b:DY):Nat->BitVec 32
 | 0=>r
 | k+1=>qpe (q0t r b k) (b.toNat.testBit k)
def thr(r:BitVec 32)(b:DY):BitVec 32:=half (half (r ^^^ BitVec.ofNat 32 b.toNat))
theorem qag2(r:BitVec 32)(b:DY)(k:Nat):(Nat.repeat qed k (r ^^^ BitVec.ofNat 32 b.toNat))=q0t r b k ^^^ (BitVec.ofNat 32 b.toNat >>> k):=by
 induction k with
 | zero=>simp[Nat.repeat,q0t]
 | succ k H=>
  rw[Nat.repeat,H,qzx,q0t]
  congr 1
  ·congr 1
   rw[BitVec.getLsbD_ushiftRight,BitVec.getLsbD_ofNat,BB]
   by_cases h:k<32
   ·simp[h]
   ·have U:b.toNat<256:=b.toBitVec.isLt;have:=Nat.testBit_lt_two_pow (Bf U (AI (by decide:(256:Nat)<=2 ^ 32) (AY Od (by omega:32<=k))));simp[h,this]
theorem q51(r:BitVec 32)(b:DY):q0t r b 8=thr r b:=by
 have h:=qag2 r b 8;have H:BitVec.ofNat 32 b.toNat >>> 8=0#32:=by
  apply BitVec.eq_of_toNat_eq;have U:b.toNat<256:=b.toBitVec.isLt;rw[BitVec.toNat_ushiftRight,BitVec.toNat_ofNat,Df,BZ Oo];show b.toNat/256=0;omega
 rw[H,BitVec.xor_zero]at h;rw[<-h,thr,<-qadc,<-qadc];rfl
def updL(r:BitVec 32)(l:LB):BitVec 32:=l.foldl thr r
def crcL(l:LB):BitVec 32 := ~~~ (updL (~~~ 0#32) l)
theorem qt7(r:BitVec 32)(l:LB)(i:Nat)(h:i<l.length):updL r (l.take (i+1))=thr (updL r (l.take i)) l[i]:=by
 unfold updL;rw[AX h,List.foldl_append];rfl
def qmd:Ee:=nibs.map λn:Nat=>Value.int .u32 (n:Int)
theorem bx(x y:BitVec 32):qfl .xor .u32 (x.toNat:Int) (y.toNat:Int)=((x ^^^ y).toNat:Int):=by
 have H:BitVec.ofInt 32 (x.toNat:Int)=x:=by apply BitVec.eq_of_toNat_eq;rw[BitVec.toNat_ofInt];have:=x.isLt;omega
 have U:BitVec.ofInt 32 (y.toNat:Int)=y:=by apply BitVec.eq_of_toNat_eq;rw[BitVec.toNat_ofInt];have:=y.isLt;omega
 show IntKind.u32.wrap ((BitVec.ofInt 32 (x.toNat:Int) ^^^ BitVec.ofInt 32 (y.toNat:Int)).toNat:Int)=_;rw[H,U];have:=(x ^^^ y).isLt;exact InR.wrap (k:=.u32) ⟨by omega,by omega⟩
theorem bnot(x:BitVec 32):qfl .xor .u32 (if IntKind.u32.signed then -1 else IntKind.u32.max) (x.toNat:Int)=((~~~x).toNat:Int):=by
 have h:(if IntKind.u32.signed then -1 else IntKind.u32.max)=((BitVec.allOnes 32).toNat:Int):=by decide
 rw[h,bx,BitVec.allOnes_xor]
theorem qagf(b:DY):(BitVec.ofNat 32 b.toNat).toNat=b.toNat:=by
 have:=q8 b;rw[BitVec.toNat_ofNat,BZ Oo]
theorem qaf5(i:Nat)(hi:i<16):(nib i).toNat=nibs.getD i 0:=by
 have:∀i,i<16->(nib i).toNat=nibs.getD i 0:=by decide
 exact this i hi
theorem qx3(x:BitVec 32):qfl .xor .u32 ((nibs.getD (x.toNat%16) 0:Nat):Int) ((x.toNat/16:Nat):Int)=((half x).toNat:Int):=by
 have H:(x >>> 4).toNat=x.toNat/16:=by rw[BitVec.toNat_ushiftRight,Df]
 rw[<-qaf5 _ (Cu _ Od),<-H,bx];rfl
theorem qym(H:CellsAt w 3 0 qmd)(i:Nat)(hi:i<16):w.cell? ⟨3,0+i*1,none⟩=some (.int .u32 ((nibs.getD i 0:Nat):Int)):=by
 have h:i<nibs.length:=hi;have:=H i (.int .u32 ((nibs.getD i 0:Nat):Int)) (by rw[qmd,Ao,zge h,Ah,zge h];rfl)
 rwa[AZ]
theorem qt6(x:BitVec 32):x.toNat<4294967296:=x.isLt
theorem qwe(r:BitVec 32)(b:DY)(w:DU)(H:CellsAt w 3 0 qmd):
  Gv Eg 270 [.int .u32 r.toNat,.int .u8 b.toNat] w λv w'=>v=.int .u32 (thr r b).toNat/\w'=w:=by
 have W:=q8 b;obtain⟨x,U⟩:∃x,x=r ^^^ BitVec.ofNat 32 b.toNat:=⟨_,rfl⟩
 have Z:=qt6 x;have h1:=qt6 (half x);have V:thr r b=half (half x):=by rw[U];rfl
 rw[V];refine ze Tryz.func270 Tryz.ntmps270 ?_;refine zv ?_;refine Wit.eq (y:=(x.toNat:Int)) (by rw[U,<-bx,qagf]) ?_;refine Wit.eq (qay (k:=.u32) (m:=x.toNat) 4 rfl ⟨by omega,by omega⟩ ⟨by omega,by omega⟩) ?_;refine IdxV.nat (Cu _ Od) ?_;refine LoadV.of (qym H _ (Cu _ Od)) ?_;refine Wit.shr (m:=16) (r:=((x.toNat/16:Nat):Int)) ⟨by decide,by decide⟩ Od Oo ?_;refine Wit.eq (qx3 x) ?_;refine Wit.eq (qay (k:=.u32) (m:=(half x).toNat) 4 rfl ⟨by omega,by omega⟩ ⟨by omega,by omega⟩) ?_;refine IdxV.nat (Cu _ Od) ?_;refine LoadV.of (qym H _ (Cu _ Od)) ?_;refine Wit.shr (m:=16) (r:=(((half x).toNat/16:Nat):Int)) ⟨by decide,by decide⟩ Od Oo ?_;refine Wit.eq (qx3 (half x)) (zw ?_);exact⟨rfl,rfl⟩
theorem q1p(l:LB)(A:oA)(n c:Nat)(w:DU)(U:SlAt encB 1 w A l)(V:l.length=n)(hl:l.length<=140737488355328)(W:CellsAt w 3 0 qmd):
  Gv Eg 198 [.int .u32 0,.slice A n c] w λv w'=>v=.int .u32 (crcL l).toNat/\w'=w:=by
 subst V;refine ze Tryz.func198 Tryz.ntmps198 ?_;refine Wit.eq (bnot 0#32) ?_;refine qk (λi:Nat=>[(10,.slice A l.length c),(11,ii l.length),(12,ii i),(5,.int .u32 (updL (~~~ 0#32) (l.take i)).toNat)]) (λi H=>i<=l.length/\H=w) (λi=>l.length-i) 0 fq ⟨by omega,rfl⟩ ?_;rintro i H Z ⟨h1,rfl⟩;(conv=>whnf);refine zC (λ_=>zw ?_) (λ_=>zw ?_)
 ·have hi:i<l.length:=by omega
  refine ElemV.bs U rfl i rfl hi ?_;intro eb eo hc;refine LoadV.of hc (zw ?_);refine zcv (qwe _ l[i] H W) ?_;rintro v H ⟨rfl,rfl⟩;refine zu ?_;exact⟨i+1,⟨rfl,rfl,rfl,by rw[qt7 _ _ _ hi];rfl,trivial⟩,⟨by omega,rfl⟩,by omega⟩
 ·refine Wit.eq (bnot _) ?_;rw[Am Oo];exact⟨rfl,rfl⟩
theorem qahs(l:LB)(A:oA)(n c:Nat)(w:DU)(H:SlAt encB 1 w A l)(U:l.length=n)(V:l.length<=140737488355328)(W:CellsAt w 3 0 qmd):
  Gv Eg 119 [.slice A n c] w λv w'=>v=.int .u32 (crcL l).toNat/\w'=w:=by
 refine ze Tryz.func119 Tryz.ntmps119 ?_;refine zcv (q1p l A n c w H U V W) ?_;rintro v Z ⟨rfl,rfl⟩;(conv=>whnf);exact⟨rfl,rfl⟩
theorem qafq(r:BitVec 32):r.toNat%2=if r.getLsbD 0=true then 1 else 0:=by
 rw[BitVec.getLsbD,Nat.testBit_zero]
 rcases Nat.mod_two_eq_zero_or_one r.toNat with h|h<;>rw[h]<;>simp
theorem qakd(r:BitVec 32)(d:Bool):qfl .xor .u32 ((r.toNat%2:Nat):Int) ((bif d then 1 else 0:Nat):Int)=((bif (r.getLsbD 0 ^^ d)then 1 else 0:Nat):Int):=by
 rw[qafq];cases r.getLsbD 0<;>cases d<;>decide
theorem qvo(r:BitVec 32)(d:Bool)(w:DU):Gv Eg 312 [.int .u32 r.toNat,.int .u8 (bif d then 1 else 0:Nat)] w λv w'=>v=.int .u32 (qpe r d).toNat/\w'=w:=by
 have V:=qt6 r;have W:(bif d then 1 else 0:Nat)<=1:=by cases d<;>decide
 have H:(r >>> 1).toNat=r.toNat/2:=by rw[BitVec.toNat_ushiftRight,Df]
 refine ze Tryz.func312 Tryz.ntmps312 ?_;refine Wit.eq (qay (k:=.u32) (m:=r.toNat) 1 rfl ⟨by omega,by omega⟩ ⟨by omega,by omega⟩) (zu ?_);refine Wit.eq (qakd r d) ?_;refine Wit.shr (m:=2) (r:=((r.toNat/2:Nat):Int)) ⟨by decide,by decide⟩ Od Oo (zw ?_);cases U:(r.getLsbD 0 ^^ d)
 ·refine Tst.no Od (zw ?_);refine⟨?_,rfl⟩;rw[qpe,U,Aa Js,BitVec.xor_zero,H]
 ·refine Tst.yes Od ?_;refine Wit.eq (y:=(((r >>> 1) ^^^ poly).toNat:Int)) (by rw[<-bx,H];rfl) (zw ?_);refine⟨?_,rfl⟩;rw[qpe,U,Ad rfl]
theorem qqy(l:LB)(A:oA)(n c:Nat)(w:DU)(hS:SlAt encB 1 w A l)(hn:l.length=n)(hl:l.length<=140737488355328):
  Gv Eg 230 [.int .u32 0,.slice A n c] w λv w'=>v=.int .u32 (crcL l).toNat/\w'=w:=by
 subst hn;refine ze Tryz.func230 Tryz.ntmps230 ?_;refine Wit.eq (bnot 0#32) ?_;refine qk (λi:Nat=>[(1,.slice A l.length c),(6,ii i),(5,.int .u32 (updL (~~~ 0#32) (l.take i)).toNat)]) (λi V=>i<=l.length/\V=w) (λi=>l.length-i) 0 fq ⟨by omega,rfl⟩ ?_;rintro i V W ⟨h1,rfl⟩;(conv=>whnf);refine zC (λ_=>zw ?_) (λ_=>zw ?_)
 ·have hi:i<l.length:=by omega
  have hb:=q8 l[i];refine qk (λk:Nat=>[(1,.slice A l.length c),(6,ii i),(7,ii k),(5,.int .u32 (q0t (updL (~~~ 0#32) (l.take i)) l[i] k).toNat)]) (λk U=>k<=8/\U=V) (λk=>8-k) 0 fq ⟨by omega,rfl⟩ ?_;rintro k U W ⟨k1,rfl⟩;(conv=>whnf);refine zC (λ_=>zu ?_) (λ_=>zu ?_)
  ·refine ElemV.bs hS rfl i rfl hi ?_;intro eb eo hc;refine LoadV.of hc ?_;have hk:2 ^ k<=128:=AI (AY Od (show k<=7 by omega)) Od;obtain⟨q,Z⟩:∃q,q=l[i].toNat/2 ^ k:=⟨_,rfl⟩
   have aa:q<=l[i].toNat:=by rw[Z];exact Cv ..
   refine Wit.shr (m:=((2 ^ k:Nat):Int)) (r:=(q:Int)) ⟨by omega,by show(k:Int)<8;omega⟩ (by rw[Dn];push_cast;rfl) (by rw[Z,Int.natCast_ediv]) ?_;refine Wit.eq (qay (k:=.u8) (m:=q) 1 rfl ⟨by omega,by omega⟩ ⟨by omega,by omega⟩) ?_;have H:q%2 ^ 1=bif l[i].toNat.testBit k then 1 else 0:=by
    rw[Nat.testBit_eq_decide_div_mod_eq,<-Z,Nat.pow_one]
    rcases Nat.mod_two_eq_zero_or_one q with h|h<;>rw[h]<;>decide
   rw[H];refine zcv (qvo _ (l[i].toNat.testBit k) U) ?_;rintro v U ⟨rfl,rfl⟩;refine zu ?_;exact⟨k+1,fq,⟨by omega,rfl⟩,by omega⟩
  ·have hk:k=8:=by omega
   subst hk;exact⟨i+1,⟨rfl,rfl,by rw[qt7 _ _ _ hi,<-q51];rfl,trivial⟩,⟨by omega,rfl⟩,by omega⟩
 ·refine Wit.eq (bnot _) ?_;rw[Am Oo];exact⟨rfl,rfl⟩
theorem q01(l:LB)(A:oA)(n c:Nat)(w:DU)(H:SlAt encB 1 w A l)(U:l.length=n)(V:l.length<=140737488355328):
  Gv Eg 157 [.slice A n c] w λv w'=>v=.int .u32 (crcL l).toNat/\w'=w:=by
 refine ze Tryz.func157 Tryz.ntmps157 ?_;refine zcv (qqy l A n c w H U V) ?_;rintro v W ⟨rfl,rfl⟩;(conv=>whnf);exact⟨rfl,rfl⟩
namespace V
theorem StoreA.same{t:DX}{K:Ec}(U:w.heap[b]?=some (.cells cur t))(V:vs=cur.toList)(W:∀v∈vs,v.oneCell'=true)(Z:∀w',Ext w w'->K w'):StoreA P w b 0 vs K:=by
 subst V;have H:=run_storeCells_at P b 0 t cur.toList 0 cur w U Js W;have ec:(cur.toList.take (0+0)++cur.toList++cur.toList.drop (0+0+cur.toList.length)).toArray=cur:=by
  grind
 rw[ec]at H;refine⟨_,H,Z _ ⟨rfl,rfl,rfl,by simp,λk _=>?_⟩⟩
 grind [qbw,qq]
theorem BS.rest(H:SlAt encB 1 w (some ⟨g,off,none⟩) l)(U:l.length<=c)(V:a<l.length):BS w (.slice (some ⟨g,off+a,none⟩) (l.length-a) (c-a)) (l.drop a):=by
 refine⟨_,c-a,by rw[zld],by grind,?_⟩;have:=H.cut (A':=some ⟨g,off+a,none⟩) (lo:=a) (hi:=l.length) (m:=c) Oo Oo U (by grind [qas])
 grind [List.take_of_length_le]
theorem SliceV.rest{n:Nat}{lo:Option DZ}{K:DZ->Prop}(a:Nat)(H:bnd lo 0 a)(U:n<=c)(V:a<n)(W:K (.slice (some ⟨g,off+a,none⟩) (n-a) (c-a))):SliceV 1 (some ⟨g,off,none⟩) n c lo none none K:=by
 refine⟨a,n,c,H,rfl,rfl,by omega,U,Ai _,Js,λZ e=>?_⟩
 grind [qas]
structure CurAt(wd w:DU)(v:DZ)(o:Obj):Prop where
 h:∃b,v=pp b/\wd.heap.size<=b/\w.heap[b]?=some o
structure Two(wd:DU)(o1 o2:Obj)(F:Ec)(s2 s5 s6 s12 s13 s17:Bool)(v5 v12:DZ)(w:DU):Prop where
 a:s17=false->Ext wd w/\(s5=true->s6=false->CurAt wd w v5 o1)/\(s12=true->s13=false->CurAt wd w v12 o2)
 d:s6=true->s5=true
 e:s12=true->s6=true
 f:s17=true->F w/\s2=true/\s5=true/\s6=true/\s12=true/\s13=true
section
variable {wd w w':DU} {o1 o2:Obj} {F:Ec} {s2 s5 s6 s12 s13 s17:Bool} {v5 v12 v:DZ}
theorem Two.start:Two wd o1 o2 F false false false false false false v5 v12 wd:=⟨(by grind [Ext.refl]),Js,Js,Js⟩
theorem Two.read1(h:Two wd o1 o2 F s2 false s6 s12 s13 s17 v5 v12 w)(W:Ext w w')(Z:∃b,v=pp b/\w.heap.size<=b/\w'.heap[b]?=some o1):Two wd o1 o2 F s2 true s6 s12 s13 s17 v v12 w':=by
 have h6:s6=false:=by
  cases H:s6
  ·rfl
  ·have:=h.d H;cases this
 have U:s17=false:=by
  cases H:s17
  ·rfl
  ·have:=(h.f H).2.2.1;cases this
 obtain⟨V,a2,a3⟩:=h.a U;obtain⟨b,rfl,hb,hc⟩:=Z;have aa:s12=false:=by
  cases H:s12
  ·rfl
  ·have:=h.e H;simp_all
 exact⟨λ_=>⟨V.trans W,λ_ _=>⟨b,rfl,AI V.size hb,hc⟩,(by grind)⟩,λ_=>rfl,h.e,(by grind)⟩
theorem Two.cur1(h:Two wd o1 o2 F s2 s5 false s12 s13 s17 v5 v12 w)(V:s5=true):Ext wd w/\CurAt wd w v5 o1:=by
 have H:s17=false:=by
  cases U:s17
  ·rfl
  ·have:=(h.f U).2.2.2.1;cases this
 obtain⟨W,Z,a3⟩:=h.a H
 simp_all
theorem Two.fix1{V H:DZ}(h:Two wd o1 o2 F s2 s5 false s12 s13 s17 v5 v12 w)(W:s5=true)(he:Ext wd w'):Two wd o1 o2 F s2 s5 true s12 s13 s17 V H w':=by
 have Z:s17=false:=by
  cases U:s17
  ·rfl
  ·have:=(h.f U).2.2.2.1;cases this
 have aa:s12=false:=by
  cases U:s12
  ·rfl
  ·have:=h.e U;cases this
 exact⟨(by grind),λ_=>W,λ_=>rfl,(by grind)⟩
theorem Two.ext2(h:Two wd o1 o2 F s2 s5 s6 false s13 s17 v5 v12 w):Ext wd w:=by
 have H:s17=false:=by
  cases U:s17
  ·rfl
  ·have:=(h.f U).2.2.2.2.1;cases this
 exact(h.a H).1
theorem Two.ext1(h:Two wd o1 o2 F s2 false s6 s12 s13 s17 v5 v12 w):Ext wd w:=by
 have H:s17=false:=by
  cases U:s17
  ·rfl
  ·have:=(h.f U).2.2.1;cases this
 exact(h.a H).1
theorem Two.ext0(h:Two wd o1 o2 F false s5 s6 s12 s13 s17 v5 v12 w):Ext wd w:=by
 have H:s17=false:=by
  cases U:s17
  ·rfl
  ·have:=(h.f U).2.1;cases this
 exact(h.a H).1
theorem Two.load(h:Two wd o1 o2 F false s5 s6 s12 s13 s17 v5 v12 w):Two wd o1 o2 F true s5 s6 s12 s13 s17 v5 v12 w:=by
 have H:s17=false:=by
  cases U:s17
  ·rfl
  ·have:=(h.f U).2.1;cases this
 exact⟨h.a,h.d,h.e,(by grind)⟩
theorem Two.read2(h:Two wd o1 o2 F s2 s5 s6 false s13 s17 v5 v12 w)(V:s6=true)(W:Ext w w')(Z:∃b,v=pp b/\w.heap.size<=b/\w'.heap[b]?=some o2):Two wd o1 o2 F s2 s5 s6 true s13 s17 v5 v w':=by
 have H:s17=false:=by
  cases h':s17
  ·rfl
  ·have:=(h.f h').2.2.2.2.1;cases this
 obtain⟨U,a2,a3⟩:=h.a H;obtain⟨b,rfl,hb,hc⟩:=Z;exact⟨λ_=>⟨U.trans W,(by grind),λ_ _=>⟨b,rfl,AI U.size hb,hc⟩⟩,h.d,λ_=>V,(by grind)⟩
theorem Two.cur2(h:Two wd o1 o2 F s2 s5 s6 s12 false s17 v5 v12 w)(U:s12=true):Ext wd w/\CurAt wd w v12 o2:=by
 have H:s17=false:=by
  cases V:s17
  ·rfl
  ·have:=(h.f V).2.2.2.2.2;cases this
 obtain⟨W,Z,a3⟩:=h.a H
 simp_all
theorem Two.fix2(h:Two wd o1 o2 F s2 s5 s6 s12 false s17 v5 v12 w)(H:s12=true)(W:Ext wd w'){Z U:DZ}:Two wd o1 o2 F s2 s5 s6 s12 true s17 Z U w':=by
 have aa:s17=false:=by
  cases h':s17
  ·rfl
  ·have:=(h.f h').2.2.2.2.2;cases this
 exact⟨λ_=>⟨W,λ_ V=>(by rw[h.e H]at V;cases V),Js⟩,h.d,h.e,(by grind)⟩
end
end V
def hN(l:LB)(k:Nat):Nat:=leN ((l.drop (4*k)).take 4)
def qcd(l:LB):Nat×Nat:=
 if l.length<28 then(l.length,10)else if hN l 0≠1095914324 then(0,190)else if hN l 6≠(crcL (l.take 24)).toNat then(24,30)else if hN l 1≠1 then(4,191)
 else if 67108864<hN l 4+hN l 5+36 then(0,2)else if l.length<hN l 4+hN l 5+36 then(l.length,10)else if hN l 4+hN l 5+36<l.length then(hN l 4+hN l 5+36,13)else(0,0)
def zF:Ee:=[ii 0,ii 0,ii 0,ii 0,.slice none 0 0,.slice none 0 0,ii 0,ii 0,.int .u32 0,.int .u32 0]
def okF(l:LB)(A B:oA):Ee:=[ii (hN l 2),ii (hN l 3),ii (hN l 4),ii (hN l 5),.slice A (hN l 4) (hN l 4),.slice B (hN l 5) (hN l 5),ii 28,ii (32+hN l 4:Nat),
 .int .u32 (leN ((l.drop (28+hN l 4)).take 4)),.int .u32 (leN ((l.drop (32+hN l 4+hN l 5)).take 4))]
theorem q9q(l:LB)(k:Nat):hN l k<4294967296:=by
 have:=qx9 ((l.drop (4*k)).take 4);have H:((l.drop (4*k)).take 4).length<=4:=by simp;omega
 have U:256 ^ ((l.drop (4*k)).take 4).length<=256 ^ 4:=AY Od H
 grind [hN]
def nsL(l:LB)(i:Nat):Ee:=(List.range 7).map λk=>Value.int .u64 ((if k<i then hN l k else 0:Nat):Int)
theorem qagc(l:LB)(i:Nat)(hi:i<7):(nsL l i).toArray.setIfInBounds i (.int .u64 (hN l i))=(nsL l (i+1)).toArray:=by
 rw[<-BA];simp only[Ci];apply Bk
 grind [nsL]
theorem qob(h:(qcd l).2=0):28<=l.length/\hN l 0=1095914324/\hN l 6=(crcL (l.take 24)).toNat/\hN l 1=1/\hN l 4+hN l 5+36<=67108864/\l.length=hN l 4+hN l 5+36:=by
 unfold qcd at h
 iterate 7
  split at h
  ·cases h
 exact⟨by omega,by omega,by omega,by omega,by omega,by omega⟩
theorem q3i(l:LB)(A:oA)(c:Nat)(w:DU)(hS:SlAt encB 1 w A l)(hc:l.length<=c)(hl:l.length<=140737488355328)(hT:CellsAt w 3 0 qmd)(h0:(qcd l).2=0):
  Gv Eg 93 [.slice A l.length c] w λv w'=>(∃A B,v=.tuple #[.agg (okF l A B).toArray,.nilIface]/\SlAt encB 1 w' A ((l.drop 28).take (hN l 4))/\SlAt encB 1 w' B ((l.drop (32+hN l 4)).take (hN l 5)))/\Ext w w':=by
 obtain⟨a2,a3,a4,a5,a6,a7⟩:=qob h0;refine ze Tryz.func93 Tryz.ntmps93 ?_;refine znm (Mem.nil w) ?_;intro r w1 H;have H:Mem w w1 [(r,.cells zF.toArray 182)]:=H;refine zu ?_;have W:∀k,hN l k<4294967296:=λk=>q9q l k
 refine znm H λnb w2 H=>zw ?_;have hv:BS w2 (.slice A l.length c) l:=⟨A,c,rfl,hc,hS.ext H.ext⟩
 refine zcv (qe8 _ l w2 hv) ?_;rintro v w3 ⟨cb,rfl,aq,ar,au⟩;have H:=H.fresh au aq ar;(conv=>whnf);refine qk (λi:Nat=>[(0,.slice A l.length c),(2,pp r),(3,.nilIface),(4,pp nb),(5,pp cb),(17,ii i)])
  (λi w4=>i<=7/\Mem w w4 [(cb,curO 367 (.slice A l.length c) (4*i) 0),(nb,.cells (nsL l i).toArray 278),(r,.cells zF.toArray 182)]) (λi=>7-i) 0 fq ⟨by omega,H⟩ ?_
 clear H;rintro i w4 a8 ⟨i1,H⟩;(conv=>whnf);refine zC (λ_=>zw ?_) (λ_=>zw ?_)
 ·have hv:BS w4 (.slice A l.length c) l:=⟨A,c,rfl,hc,hS.ext H.ext⟩
  refine zcv (qjf cb _ (4*i) l w4 (H.get mh) hv Oo hl) ?_;rintro v w5 ⟨rfl,hu⟩;have H:Mem w w5 [(cb,curO 367 (.slice A l.length c) (4*(i+1)) 0),(nb,.cells (nsL l i).toArray 278),(r,.cells zF.toArray 182)]:=H.upd (i:=0) rfl hu;(conv=>whnf);refine IdxV.nat Oo (zw ?_);refine StoreV.mem H (i:=1) rfl (by rw[show tsz Eg 164=1 from by kernel_rfl];simp[nsL];omega) rfl λw6 H=>zu ?_;refine⟨i+1,fq,⟨by omega,?_⟩,by omega⟩;have e:=qagc l i Oo;rw[<-e];have e2:0+i*tsz Eg 164=i:=by rw[show tsz Eg 164=1 from by kernel_rfl];omega
  rw[e2]at H;exact H
 have av:i=7:=by omega
 subst av;have H:Mem w w4 [(cb,curO 367 (.slice A l.length c) 28 0),(nb,.cells #[.int .u64 (hN l 0),.int .u64 (hN l 1),.int .u64 (hN l 2),.int .u64 (hN l 3),.int .u64 (hN l 4),.int .u64 (hN l 5),.int .u64 (hN l 6)] 278),(r,.cells zF.toArray 182)]:=H;have g0:=W 0;have g1:=W 1;have g2:=W 2;have g3:=W 3;have g4:=W 4;have g5:=W 5;have g6:=W 6;refine IdxV.at_ 4 rfl Od (zw ?_);refine zr H 1 ?_;refine IdxV.at_ 5 rfl Od (zw ?_);refine zr H 1 ?_;refine zv ?_;have aw:(hN l 4:Int)+(hN l 5:Int)+28+8=((hN l 4+hN l 5+36:Nat):Int):=by omega
 rw[aw];refine IdxV.at_ 0 rfl Od (zw ?_);refine zr H 1 ?_;refine zv ?_;have H:=H.drew;refine zy ?_;refine IdxV.at_ 6 rfl Od (zw ?_);refine zt ?_;refine LoadV.mem (i:=1) Oa rfl rfl (zw ?_);refine zt ?_;refine SliceV.bs (hS.ext H.ext) rfl 0 24 c rfl rfl rfl Oo Oo Oo znr (λ_=>rfl) ?_;intro A1 ag;rw[BF]at ag;refine zu ?_;refine⟨.int .u32 (crcL (l.take 24)).toNat,qahs (l.take 24) A1 _ _ _ ag Ys Ys (hT.ext H.ext),?_⟩;refine zu ?_;refine IdxV.at_ 1 rfl Od (zw ?_);refine zr H 1 ?_;refine zv ?_;refine IdxV.at_ 2 rfl Od (zw ?_);refine zr H 1 ?_;refine zv ?_;refine IdxV.at_ 3 rfl Od (zw ?_);refine zr H 1 ?_;refine zv ?_;refine IdxV.at_ 4 rfl Od (zw ?_);refine zr H 1 ?_;refine zv ?_;refine IdxV.at_ 5 rfl Od (zw ?_);refine zr H 1 ?_;refine zv ?_;refine StoreA.mem H (i:=2) rfl (show 0+4<=10 by decide) (by intro v hv;simp at hv;rcases hv with rfl|rfl|rfl|rfl<;>rfl) ?_;intro w5 H;have H:Mem w w5 [_,_,(r,.cells #[ii (hN l 2),ii (hN l 3),ii (hN l 4),ii (hN l 5),.slice none 0 0,.slice none 0 0,ii 0,ii 0,.int .u32 0,.int .u32 0] 182)]:=H;(conv=>whnf);refine StoreV.mem H (i:=2) rfl (show 6<10 by decide) rfl ?_;intro w6 H;have H:Mem w w6 [_,_,(r,.cells #[ii (hN l 2),ii (hN l 3),ii (hN l 4),ii (hN l 5),.slice none 0 0,.slice none 0 0,ii 28,ii 0,.int .u32 0,.int .u32 0] 182)]:=H;(conv=>whnf);refine IdxV.at_ 4 rfl Od (zw ?_);refine zr H 1 ?_;refine zv ?_;refine StoreV.mem H (i:=2) rfl (show 7<10 by decide) rfl ?_;intro w7 H;have H:Mem w w7 [_,_,(r,.cells #[ii (hN l 2),ii (hN l 3),ii (hN l 4),ii (hN l 5),.slice none 0 0,.slice none 0 0,ii 28,ii (28+(hN l 4:Int)+4),.int .u32 0,.int .u32 0] 182)]:=H;have ax:28+(hN l 4:Int)+4=((32+hN l 4:Nat):Int):=by omega
 rw[ax]at H;(conv=>whnf);refine zr H 2 ?_;refine zr H 2 ?_;refine zt ?_;refine LoadV.mem (i:=2) Oa rfl rfl (zw ?_);refine zt ?_;refine SliceV.bs hS rfl 28 (28+hN l 4) (28+hN l 4) rfl (by show((32+hN l 4:Nat):Int)-4=((28+hN l 4:Nat):Int);omega) (by show((32+hN l 4:Nat):Int)-4=((28+hN l 4:Nat):Int);omega) Oo Oo znr Oo (λ_=>rfl) ?_;intro A1 ag;have ay:28+hN l 4-28=hN l 4:=by omega
 rw[ay]at ag|-;(conv=>whnf);refine StoreV.mem H (i:=2) rfl (show 4<10 by decide) rfl ?_;intro w8 H;have H:Mem w w8 [_,_,(r,.cells #[ii (hN l 2),ii (hN l 3),ii (hN l 4),ii (hN l 5),.slice A1 (hN l 4) (hN l 4),.slice none 0 0,ii 28,ii ((32+hN l 4:Nat):Int),.int .u32 0,.int .u32 0] 182)]:=H;(conv=>whnf);refine zr H 2 ?_;refine zv ?_;refine SliceV.bs hS rfl (32+hN l 4) (32+hN l 4+hN l 5) (32+hN l 4+hN l 5) rfl (by show((hN l 4:Int)+(hN l 5:Int))+28+8-4=((32+hN l 4+hN l 5:Nat):Int);omega) (by show((hN l 4:Int)+(hN l 5:Int))+28+8-4=((32+hN l 4+hN l 5:Nat):Int);omega) Oo Oo znr Oo (λ_=>rfl) ?_;intro A2 aj;have az:32+hN l 4+hN l 5-(32+hN l 4)=hN l 5:=by omega
 rw[az]at aj|-;(conv=>whnf);refine StoreV.mem H (i:=2) rfl (show 5<10 by decide) rfl ?_;intro w9 H;have H:Mem w w9 [_,_,(r,.cells #[ii (hN l 2),ii (hN l 3),ii (hN l 4),ii (hN l 5),.slice A1 (hN l 4) (hN l 4),.slice A2 (hN l 5) (hN l 5),ii 28,ii ((32+hN l 4:Nat):Int),.int .u32 0,.int .u32 0] 182)]:=H;(conv=>whnf);obtain⟨g,off,hA,_⟩:=hS.at_ (by grind);subst hA;obtain⟨n1,ak⟩:∃n,n=leN ((l.drop (28+hN l 4)).take 4):=⟨_,rfl⟩
 obtain⟨n2,al⟩:∃n,n=leN ((l.drop (32+hN l 4+hN l 5)).take 4):=⟨_,rfl⟩
 have b1:n1<4294967296:=by
  have:=qbx (l.drop (28+hN l 4)) 4 (by grind);omega
 have b2:n2<4294967296:=by
  have:=qbx (l.drop (32+hN l 4+hN l 5)) 4 (by grind);omega
 have am:∀wx,Ext w wx->BS wx (.slice (some ⟨g,off+(28+hN l 4),none⟩) (l.length-(28+hN l 4)) (c-(28+hN l 4))) (l.drop (28+hN l 4)):=λwx he=>BS.rest (hS.ext he) hc Oo
 have an:∀wx,Ext w wx->BS wx (.slice (some ⟨g,off+(32+hN l 4+hN l 5),none⟩) (l.length-(32+hN l 4+hN l 5)) (c-(32+hN l 4+hN l 5))) (l.drop (32+hN l 4+hN l 5)):=λwx he=>BS.rest (hS.ext he) hc Oo
 obtain⟨F,hF⟩:∃F:DU->Prop,F=λw'=>Mem w w' [(cb,curO 367 (.slice (some ⟨g,off,none⟩) l.length c) 28 0),(nb,.cells (nsL l 7).toArray 278),(r,.cells #[ii (hN l 2),ii (hN l 3),ii (hN l 4),ii (hN l 5),.slice A1 (hN l 4) (hN l 4),.slice A2 (hN l 5) (hN l 5),ii 28,ii ((32+hN l 4:Nat):Int),.int .u32 n1,.int .u32 n2] 182)]:=⟨_,rfl⟩
 refine DrawV.gen (λS U w'=>Two w9.drew (curO 367 (.slice (some ⟨g,off+(28+hN l 4),none⟩) (l.length-(28+hN l 4)) (c-(28+hN l 4))) 0 0) (curO 367 (.slice (some ⟨g,off+(32+hN l 4+hN l 5),none⟩) (l.length-(32+hN l 4+hN l 5)) (c-(32+hN l 4+hN l 5))) 0 0) F (S 2) (S 5) (S 6) (S 12) (S 13) (S 17) (U 5) (U 12) w') rfl Jk (λU=>Two.start) (zw ?_);refine zg ?_;refine zg ?_
 ·refine StepG.of (ii ((32+hN l 4:Nat):Int)) (λS U wd hk Z V=>?_) (zw ?_)
  ·dsimp only at V;rw[hk]at V;(conv=>whnf);refine LoadV.mem (H.drew.call V.ext0) (i:=2) rfl rfl (zw ?_);exact⟨rfl,V.load⟩
  refine zg ?_
  ·refine StepG.of (.slice (some ⟨g,off+(28+hN l 4),none⟩) (l.length-(28+hN l 4)) (c-(28+hN l 4))) (λS U wd hk Z V=>zw ?_) (zw ?_)
   ·refine SliceV.rest (28+hN l 4) (by show((32+hN l 4:Nat):Int)-4=((28+hN l 4:Nat):Int);omega) hc Oo (zw ?_);exact⟨rfl,V⟩
   ·refine StepG.any (λS U wd hk Z V=>?_) (zw ?_)
    ·dsimp only at V;rw[hk]at V;(conv=>whnf);refine zcv (qe8 _ _ wd (am wd (H.drew.ext.trans V.ext1))) ?_;rintro v wx ⟨b,rfl,hb,aa,he⟩;(conv=>whnf);exact⟨trivial,Two.read1 V he ⟨b,rfl,hb,aa⟩⟩
    refine StepG.of (.int .u64 n1) (λS U wd hk Z V=>?_) (zw ?_)
    ·dsimp only at V;have h5:S 5=true:=Z 5 Od;rw[hk]at V;obtain⟨ad,b,ai,hb,aa⟩:=V.cur1 h5;rw[qp ai];(conv=>whnf);refine zcv (qjf b _ 0 (l.drop (28+hN l 4)) wd aa (am wd (H.drew.ext.trans ad)) (by grind) (by grind)) ?_;rintro v wx ⟨rfl,hu⟩;(conv=>whnf);exact⟨by rw[ak,BF];rfl,V.fix1 h5 (hu.ext ad hb)⟩
    (iterate 4 (refine zg ?_))
    ·refine StepG.of (.slice (some ⟨g,off+(32+hN l 4+hN l 5),none⟩) (l.length-(32+hN l 4+hN l 5)) (c-(32+hN l 4+hN l 5))) (λS U wd hk Z V=>zw ?_) (zw ?_)
     ·refine SliceV.rest (32+hN l 4+hN l 5) (by show((hN l 4+hN l 5+36:Nat):Int)-4=((32+hN l 4+hN l 5:Nat):Int);omega) hc Oo (zw ?_);exact⟨rfl,V⟩
     refine StepG.any (λS U wd hk Z V=>?_) (zw ?_)
     ·dsimp only at V;have h6:S 6=true:=Z 6 Od;rw[hk]at V;(conv=>whnf);refine zcv (qe8 _ _ wd (an wd (H.drew.ext.trans V.ext2))) ?_;rintro v wx ⟨b,rfl,hb,aa,he⟩;(conv=>whnf);exact⟨trivial,Two.read2 V h6 he ⟨b,rfl,hb,aa⟩⟩
     refine StepG.of (.int .u64 n2) (λS U wd hk Z V=>?_) (zw ?_)
     ·dsimp only at V;have ah:S 12=true:=Z 12 Od;rw[hk]at V;obtain⟨ad,b,ai,hb,aa⟩:=V.cur2 ah;rw[qp ai];(conv=>whnf);refine zcv (qjf b _ 0 (l.drop (32+hN l 4+hN l 5)) wd aa (an wd (H.drew.ext.trans ad)) (by rw[zld];omega) (by rw[zld];omega)) ?_;rintro v wx ⟨rfl,hu⟩;(conv=>whnf);exact⟨by rw[al,BF];rfl,V.fix2 ah (hu.ext ad hb)⟩
     (iterate 3 (refine zg ?_));refine StepG.of undef (λS U wd hk Z V=>?_) (zw ?_)
     ·dsimp only at V;have h2:S 2=true:=Z 2 Od;have h5:S 5=true:=Z 5 Od;have h6:S 6=true:=Z 6 Od;have ah:S 12=true:=Z 12 Od;have a0:S 13=true:=Z 13 Od;rw[hk]at V;have ad:=(V.a rfl).1;(conv=>whnf);refine StoreA.mem (H.drew.call ad) (i:=2) rfl (show 8+2<=10 by decide) (by intro v hv;simp at hv;rcases hv with rfl|rfl<;>rfl) λwx a1=>zw ?_;refine⟨rfl,?_⟩;refine⟨λh=>(by cases h),V.d,V.e,λ_=>⟨by rw[hF];exact a1,h2,h5,h6,ah,a0⟩⟩
     intro U a9 V;have ae:=(V.f rfl).1;rw[hF]at ae;(conv=>whnf);refine zl ae 2 ?_;refine StoreA.same (ae.get (zmc (zmc mh))) rfl (by intro v hv;simp at hv;rcases hv with rfl|rfl|rfl|rfl|rfl|rfl|rfl|rfl|rfl|rfl<;>rfl) λba ao=>zw ?_;refine qi (R:=λv w'=>(∃A B,v=.tuple #[.agg (okF l A B).toArray,.nilIface]/\SlAt encB 1 w' A ((l.drop 28).take (hN l 4))/\SlAt encB 1 w' B ((l.drop (32+hN l 4)).take (hN l 5)))/\Ext w w') (zw ?_);have af:=ae.call ao;refine zl af 2 ?_;refine⟨⟨A1,A2,?_,?_,?_⟩,af.ext⟩
     ·rw[okF,<-ak,<-al];rfl
     ·exact ag.ext af.ext
     ·exact aj.ext af.ext
theorem qdo:Eg.underlying 32=some (.slice 5):=Tryz.underlying32
theorem bytI:Eg.info? 5=some ((Eg.info? 5).get Jk):=(Bt _).symm
theorem bytZ:((Eg.info? 5).get Jk).zero=some (.int .u8 0):=by kernel_rfl
def fixL(n:Nat):Nat->LB
 | 0=>[]
 | k+1=>fixL n k++[UInt8.ofNat (n/2 ^ (8*k)%256)]
theorem qt(n k:Nat):(fixL n k).length=k:=by
 induction k with
 | zero=>rfl
 | succ k H=>simp[fixL,H]
theorem qfs(n k:Nat):leN (fixL n k)=n%256 ^ k:=by
 induction k with
 | zero=>simp[fixL,leN,Nat.mod_one]
 | succ k H=>
  rw[fixL,q4i,H,qt];have e:(2:Nat) ^ (8*k)=256 ^ k:=by rw[Nat.pow_mul]
  have U:(UInt8.ofNat (n/2 ^ (8*k)%256)).toNat=n/256 ^ k%256:=by
   rw[e];simp
  simp only[leN,U,Nat.mul_zero,BB];rw[Nat.pow_succ,Nat.mod_mul]
theorem q4k:∀{l m:LB},l.length=m.length->leN l=leN m->l=m:=by
 intro l
 induction l with
 | nil=>intro m h _;exact(Bg h.symm).symm
 | cons x l H=>
  intro m h e;cases m with
  | nil=>simp at h
  | cons y m=>
   simp only[leN]at e;have W:=q8 x;have Z:=q8 y;have U:x.toNat=y.toNat:=by omega
   have V:leN l=leN m:=by omega
   rw[H (by simpa using h) V,Cc.1 U]
theorem qsb{n:Nat}{m:LB}(U:m.length=4)(H:n<4294967296):fixL n 4=m↔leN m=n:=by
 constructor
 ·rintro rfl;rw[qfs];exact BZ H
 ·intro h;refine q4k (by rw[qt,U]) ?_;rw[qfs,h];exact BZ H
namespace V
theorem SlAt.rest(H:SlAt encB 1 w (some ⟨g,off,none⟩) l)(U:a<l.length):SlAt encB 1 w (some ⟨g,off+a,none⟩) (l.drop a):=by
 have:=H.cut (A':=some ⟨g,off+a,none⟩) (lo:=a) (hi:=l.length) (m:=l.length) Oo znr znr (by rw[Aa Oo,AZ,Bd,qas])
 rwa[Am Js]at this
theorem Rw.byts{n:Nat}{H:LB}(h:Rw w0 w (.slice A n c) e 1 n (H.map λc=>Value.int .u8 c.toNat) L)(hn:H.length=n):BS w (.slice A n c) H:=by
 subst hn;refine⟨A,c,rfl,?_,⟨λU=>?_⟩⟩
 ·rcases h.own.2 with⟨Z,e2⟩|⟨g,aa,cur,Z,_,_,V,_⟩
  ·omega
  ·cases Z;exact V
 ·obtain⟨g,rfl,_,_,_,hc⟩:=h.cells (Cw.2 U);refine⟨g,0,rfl,λj x hx k v W=>?_⟩;cases k with
  | succ k=>simp[encB]at W
  | zero=>
   simp only[encB,AT,AR]at W;subst W;have:=hc j (.int .u8 x.toNat) (by rw[Ao,hx];rfl)
   simpa using this
theorem Wit.shrN{k:IntKind}{b:Int}{K:Int->Prop}(n:Nat)(e:b=(n:Int))(U:n<k.bits)(H:K ((a/2 ^ n:Nat):Int)):
  Wit (λr=>0<=b/\b<k.bits/\(a:Int)/2 ^ b.toNat=r) K:=by
 subst e;refine⟨_,⟨by omega,by omega,?_⟩,H⟩;rw[Dn];simp
theorem BytesS.sl{n:Nat}{K:DZ->Prop}(h:SlAt encB 1 w A l)(V:l.length=n)(W:K (.string ⟨l.toArray⟩)):BytesS w A n K:=
 ⟨l,V,λH=>by
  obtain⟨b,off,Z,h2⟩:=h.at_ H;refine⟨b,off,Z,λk v U=>?_⟩;rw[byteCells,Ao]at U;obtain⟨x,hx,rfl⟩:=CO.1 U;have:=h2 k x hx 0 (.int .u8 x.toNat) rfl
  simpa using this,W⟩
theorem Wit.low8{K:Int->Prop}(H:K ((a%256:Nat):Int)):Wit (λr=>IntKind.u8.wrap (a:Int)=r) K:=by
 refine⟨_,?_,H⟩;simp[IntKind.wrap,IntKind.bits,IntKind.signed]
end V
theorem qabe(w:DU):Gv Eg 229 [ii 4] w λr w'=>r=ii 4/\w'=w:=by
 refine ze Tryz.func229 Tryz.ntmps229 ?_;refine V.Fall.min2 rfl rfl rfl λm H=>?_;obtain rfl:m=4:=by omega
 (conv=>whnf);refine V.Fall.max2 rfl rfl rfl λm H=>?_;obtain rfl:m=4:=by omega
 (conv=>whnf);exact⟨rfl,rfl⟩
theorem qor(n:Nat)(w:DU)(_:n<4294967296):
  Gv Eg 156 [.int .u64 n,ii 4] w λr w'=>BS w' r (fixL n 4)/\Ext w w':=by
 refine ze Tryz.func156 Tryz.ntmps156 ?_;refine qk (λx:Nat×oA×Nat=>[(0,.int .u64 n),(1,ii 4),(5,.slice x.2.1 x.1 x.2.2),(6,ii x.1)])
  (λx U=>x.1<=4/\Rw w U (.slice x.2.1 x.1 x.2.2) 5 1 x.1 ((fixL n x.1).map λc=>Value.int .u8 c.toNat) []) (λx=>4-x.1) (0,none,0) fq ⟨by simp,Rw.nil (Mem.nil w)⟩ ?_
 rintro⟨i,A,c⟩ U ad ⟨h1,H⟩;dsimp only at h1 H|-;(conv=>whnf);refine zcv (qabe U) ?_;rintro r w3 ⟨rfl,rfl⟩;(conv=>whnf);refine zC (λ_=>zu ?_) (λ_=>zu ?_)
 ·refine V.Wit.shrN (8*i) Oo (by show 8*i<64;omega) (zw ?_);refine V.Wit.low8 (zw ?_);refine NewV.rw H λnb w4 W=>zw ?_;refine AppV.one qdo bytI bytZ Jk rfl (by decide +kernel) W rfl Oo ?_;intro B' d' w5 Z;refine zu ?_;refine⟨(i+1,B',d'),fq,⟨by simp only;omega,?_⟩,by simp only;omega⟩;simp only[fixL,AJ,AK,BN];have e:(UInt8.ofNat (n/2 ^ (8*i)%256)).toNat=n/2 ^ (8*i)%256:=by simp
  rw[e];exact Z
 ·obtain rfl:i=4:=by omega
  exact⟨H.byts (qt n 4),H.mem.ext⟩
theorem qen(l:LB)(A:oA)(n c:Nat)(w:DU)(V:SlAt encB 1 w A l)(W:l.length=n)(Z:l.length<=140737488355328):
  Gv Eg 92 [.slice A n c] w λr w'=>BS w' r (fixL (crcL l).toNat 4)/\Ext w w':=by
 have hs:=q01 l A n c w V W Z;have H:=qt6 (crcL l);refine ze Tryz.func92 Tryz.ntmps92 ?_;refine zcv (hs) ?_;rintro r w1 ⟨rfl,rfl⟩;refine zu ?_;refine zcv (qor _ w1 H) ?_;rintro r w2 ⟨⟨A',c',rfl,h1,h2⟩,U⟩;(conv=>whnf);exact⟨⟨A',c',rfl,h1,h2⟩,U⟩
structure One(wd:DU)(o:Obj)(F:Ea)(s2 s5 s8 s11 s12 s13:Bool)(v12:DZ)(w:DU):Prop where
 a:s13=false->Ext wd w/\(s12=true->CurAt wd w v12 o)
 f:s13=true->F v12 w/\s2=true/\s5=true/\s8=true/\s11=true/\s12=true
section
variable {wd w w':DU} {o:Obj} {F:Ea} {s2 s5 s8 s11 s12 s13:Bool} {v12:DZ}
theorem One.start:One wd o F false false false false false false v12 wd:=⟨λ_=>⟨xr,λh=>(by cases h)⟩,λh=>(by cases h)⟩
theorem One.of{u2 u5 u8 U:Bool}(h:One wd o F s2 s5 s8 s11 s12 s13 v12 w)(V:s13=false)(Z:Ext w w'):One wd o F u2 u5 u8 U s12 s13 v12 w':=
 ⟨λH=>⟨(h.a H).1.trans Z,λW=>let⟨b,h1,h2,h3⟩:=(h.a H).2 W;⟨b,h1,h2,Z.get h3⟩⟩,λH=>(by rw[V]at H;cases H)⟩
theorem One.z2(h:One wd o F false s5 s8 s11 s12 s13 v12 w):s13=false:=by
 cases H:s13
 ·rfl
 ·have:=(h.f H).2.1;cases this
theorem One.z5(h:One wd o F s2 false s8 s11 s12 s13 v12 w):s13=false:=by
 cases H:s13
 ·rfl
 ·have:=(h.f H).2.2.1;cases this
theorem One.z8(h:One wd o F s2 s5 false s11 s12 s13 v12 w):s13=false:=by
 cases H:s13
 ·rfl
 ·have:=(h.f H).2.2.2.1;cases this
theorem One.z11(h:One wd o F s2 s5 s8 false s12 s13 v12 w):s13=false:=by
 cases H:s13
 ·rfl
 ·have:=(h.f H).2.2.2.2.1;cases this
theorem One.z12(h:One wd o F s2 s5 s8 s11 false s13 v12 w):s13=false:=by
 cases H:s13
 ·rfl
 ·have:=(h.f H).2.2.2.2.2;cases this
theorem One.alloc(h:One wd o F s2 s5 s8 s11 false s13 v12 w):One wd o F s2 s5 s8 s11 true s13 (.pointer (some ⟨w.heap.size,0,none⟩)) (w.alloc o):=by
 have H:=h.z12;have U:=(h.a H).1;exact⟨λ_=>⟨U.alloc o,λ_=>⟨_,rfl,U.size,heap_alloc_new w o⟩⟩,λV=>(by rw[H]at V;cases V)⟩
end
theorem q3w(l:LB)(A:oA)(n c:Nat)(w:DU)(hS:SlAt encB 1 w A l)(hn:l.length=n)(hc:n<=c)(hl:l.length<=140737488355328)(h0:(qcd l).2=0):
  Gv Eg 48 [.slice A n c] w λv w'=>v=.tuple #[.agg #[ii (hN l 2),ii (hN l 3),ii (hN l 4),ii (hN l 5)],.agg #[ii 0,ii 0]]/\Ext w w':=by
 obtain⟨ae,al,am,ax,ay,az⟩:=qob h0;refine ze Tryz.func48 Tryz.ntmps48 ?_;refine znm (Mem.nil w) ?_;intro b w1 V;have V:Mem w w1 [(b,.cells #[ii 0,ii 0,ii 0,ii 0] 53)]:=V;(conv=>whnf);refine znm V ?_;intro f w2 V;have V:Mem w w2 [(f,.cells #[ii 0,ii 0] 55),(b,.cells #[ii 0,ii 0,ii 0,ii 0] 53)]:=V;refine zu ?_;refine SliceV.bs hS hn 0 4 c rfl rfl rfl Oo Oo Oo znr (λh=>by cases h) ?_;intro A1 an;(conv=>whnf);refine BytesS.sl (an.ext V.ext) Ys (zw ?_);have af:seq ⟨((l.drop 0).take (4-0)).toArray⟩ ⟨#[84,83,82,65]⟩=true:=by
  rw[qaf,show(l.drop 0).take (4-0)=[84,83,82,65]from q4k Ys (al.trans rfl)]
 rw[af];refine zv ?_;refine DrawV.free Jk Jk (zw ?_);refine zd ?_;apply StepD.of (λv w=>∃W c',v=.slice W 24 c'/\SlAt encB 1 w W (l.take 24)) (λ_ _ _ h he=>let⟨W,c',h1,h2⟩:=h;⟨W,c',h1,h2.ext he⟩)
 ·intro wd hd;(conv=>whnf);refine SliceV.bs (hS.ext (V.drew.ext.trans hd)) hn 0 24 c rfl rfl rfl Oo Oo Oo znr (λh=>by cases h) ?_;intro W aa;(conv=>whnf);exact⟨xr,_,_,rfl,aa⟩
 (conv=>whnf);apply StepD.of (λv w=>BS w v (fixL (crcL (l.take 24)).toNat 4)) (λ_ _ _ h he=>h.ext he)
 ·intro wd hd;(conv=>whnf);rintro v ⟨W,c',rfl,aa⟩;(conv=>whnf);refine zcv (qen (l.take 24) W 24 c' wd aa Ys Ys) ?_;rintro v w9 ⟨h9,ad⟩;exact⟨ad,h9⟩
 (conv=>whnf);apply zsd
 ·intro wd hd;(conv=>whnf);rintro v ⟨W,c',rfl,h1,h2⟩;(conv=>whnf);refine BytesS.sl h2 rfl (zw ?_);exact xq
 (conv=>whnf);refine zd ?_;apply StepD.of (λv w=>∃W c',v=.slice W 4 c'/\SlAt encB 1 w W ((l.drop 24).take 4)) (λ_ _ _ h he=>let⟨W,c',h1,h2⟩:=h;⟨W,c',h1,h2.ext he⟩)
 ·intro wd hd;(conv=>whnf);refine SliceV.bs (hS.ext (V.drew.ext.trans hd)) hn 24 28 c rfl rfl rfl Oo Oo Oo znr (λh=>by cases h) ?_;intro W aa;(conv=>whnf);exact⟨xr,_,_,rfl,aa⟩
 (conv=>whnf);apply zsd
 ·intro wd hd;(conv=>whnf);rintro v ⟨W,c',rfl,h2⟩;(conv=>whnf);refine BytesS.sl h2 Ys (zw ?_);exact xq
 (conv=>whnf);refine zd ?_;intro w9 ad
 (repeat(intro _ _;(conv=>whnf)))
 (conv=>whnf);replace V:=V.drew.call ad;have ag:seq ⟨(fixL (crcL (l.take 24)).toNat 4).toArray⟩ ⟨((l.drop 24).take 4).toArray⟩=true:=by
  rw[qaf,(qsb Ys (qt6 _)).2 am]
 rw[ag];refine zv ?_;refine SliceV.bs hS hn 4 n c rfl rfl rfl Oo Oo Oo znr (λh=>by cases h) ?_;intro A4 ah;rw[Am Ys]at ah;(conv=>whnf);refine zcv (qf1 (l.drop 4) A4 _ _ _ (ah.ext V.ext) Ys Ys) ?_;rintro v ao ⟨rfl,ai⟩;replace V:=V.call ai;have aq:leN ((l.drop 4).take 4)=hN l 1:=rfl;rw[aq];refine zu ?_;obtain⟨g,off,hA,_⟩:=hS.at_ (by intro e;rw[e]at ae;simp at ae);subst hA;obtain⟨F,hF⟩:∃F:DZ->DU->Prop,F=λv w'=>∃x,v=pp x/\Mem w w' [(x,.cells #[ii (hN l 2),ii (hN l 3),ii (hN l 4),ii (hN l 5)] 53),(f,.cells #[ii 0,ii 0] 55),(b,.cells #[ii 0,ii 0,ii 0,ii 0] 53)]:=⟨_,rfl⟩
 refine DrawV.gen (λS U w'=>One ao.drew (.cells #[ii 0,ii 0,ii 0,ii 0] 53) F (S 2) (S 5) (S 8) (S 11) (S 13) (S 14) (U 13) w') rfl Jk (λU=>One.start) (zw ?_);refine zg ?_;refine StepG.of (.slice (some ⟨g,off+8,none⟩) (n-8) (c-8)) (λS U wd Z hp H=>zw ?_) (zw ?_)
 ·refine SliceV.rest 8 rfl hc Oo (zw ?_);exact⟨rfl,H⟩
 refine StepG.of (ii (hN l 2)) (λS U wd Z hp H=>?_) (zw ?_)
 ·dsimp only at H;rw[Z]at H;have hz:=H.z2;have hx:=(H.a hz).1;(conv=>whnf);have hB:=SlAt.rest (a:=8) (hS.ext (V.drew.ext.trans hx)) Oo;refine zcv (qf1 (l.drop 8) _ _ _ wd hB (by rw[zld,hn]) (by rw[zld];omega)) ?_;rintro v w9 ⟨rfl,h9⟩;exact⟨rfl,H.of hz h9⟩
 refine zg ?_;refine StepG.of (.slice (some ⟨g,off+12,none⟩) (n-12) (c-12)) (λS U wd Z hp H=>zw ?_) (zw ?_)
 ·refine SliceV.rest 12 rfl hc Oo (zw ?_);exact⟨rfl,H⟩
 refine StepG.of (ii (hN l 3)) (λS U wd Z hp H=>?_) (zw ?_)
 ·dsimp only at H;rw[Z]at H;have hz:=H.z5;have hx:=(H.a hz).1;(conv=>whnf);have hB:=SlAt.rest (a:=12) (hS.ext (V.drew.ext.trans hx)) Oo;refine zcv (qf1 (l.drop 12) _ _ _ wd hB (by rw[zld,hn]) (by rw[zld];omega)) ?_;rintro v w9 ⟨rfl,h9⟩;exact⟨rfl,H.of hz h9⟩
 refine zg ?_;refine StepG.of (.slice (some ⟨g,off+16,none⟩) (n-16) (c-16)) (λS U wd Z hp H=>zw ?_) (zw ?_)
 ·refine SliceV.rest 16 rfl hc Oo (zw ?_);exact⟨rfl,H⟩
 refine StepG.of (ii (hN l 4)) (λS U wd Z hp H=>?_) (zw ?_)
 ·dsimp only at H;rw[Z]at H;have hz:=H.z8;have hx:=(H.a hz).1;(conv=>whnf);have hB:=SlAt.rest (a:=16) (hS.ext (V.drew.ext.trans hx)) Oo;refine zcv (qf1 (l.drop 16) _ _ _ wd hB (by rw[zld,hn]) (by rw[zld];omega)) ?_;rintro v w9 ⟨rfl,h9⟩;exact⟨rfl,H.of hz h9⟩
 refine zg ?_;refine StepG.of (.slice (some ⟨g,off+20,none⟩) (n-20) (c-20)) (λS U wd Z hp H=>zw ?_) (zw ?_)
 ·refine SliceV.rest 20 rfl hc Oo (zw ?_);exact⟨rfl,H⟩
 refine StepG.of (ii (hN l 5)) (λS U wd Z hp H=>?_) (zw ?_)
 ·dsimp only at H;rw[Z]at H;have hz:=H.z11;have hx:=(H.a hz).1;(conv=>whnf);have hB:=SlAt.rest (a:=20) (hS.ext (V.drew.ext.trans hx)) Oo;refine zcv (qf1 (l.drop 20) _ _ _ wd hB (by rw[zld,hn]) (by rw[zld];omega)) ?_;rintro v w9 ⟨rfl,h9⟩;exact⟨rfl,H.of hz h9⟩
 refine zg ?_;refine StepG.any (λS U wd Z hp H=>?_) (zw ?_)
 ·dsimp only at H;rw[Z]at H;have hz:=H.z12;have hx:=(H.a hz).1;(conv=>whnf);refine⟨λx wx hb hw=>?_⟩;subst hb hw;(conv=>whnf);exact⟨trivial,H.alloc⟩
 refine StepG.of undef (λS U wd Z hp H=>?_) (zw ?_)
 ·dsimp only at H;have h2:S 2=true:=hp 2 Od;have h5:S 5=true:=hp 5 Od;have h8:S 8=true:=hp 8 Od;have ar:S 11=true:=hp 11 Od;have aj:S 13=true:=hp 13 Od;rw[Z]at H;obtain⟨hx,au⟩:=H.a rfl;obtain⟨x,hv,hb,ho⟩:=au aj;have av:=V.drew.fresh hx hb ho;rw[qp hv];(conv=>whnf);refine StoreA.all av (i:=0) rfl rfl (by intro v hv;simp at hv;rcases hv with rfl|rfl|rfl|rfl<;>rfl) λwx aw=>zw ?_;refine⟨rfl,⟨λh=>(by cases h),λ_=>⟨?_,h2,h5,h8,ar,aj⟩⟩⟩;rw[hF];exact⟨x,rfl,aw⟩
 intro U a0 H;have ak:=(H.f rfl).1;rw[hF]at ak;obtain⟨x,hv,V⟩:=ak;rw[qp hv];(conv=>whnf);have g4:=q9q l 4;have g5:=q9q l 5;refine LoadV.mem (i:=0) Oa rfl rfl (zw ?_);refine LoadV.mem (i:=0) Oa rfl rfl (zw ?_);refine zt ?_;refine zl V 0 ?_;refine StoreA.all V (i:=2) rfl rfl (by intro v hv;simp at hv;rcases hv with rfl|rfl|rfl|rfl<;>rfl) λw3 V=>zw ?_;refine StoreA.all V (i:=1) rfl rfl (by intro v hv;simp at hv;rcases hv with rfl|rfl<;>rfl) λw4 V=>zw ?_;refine qi (R:=λv w'=>v=.tuple #[.agg #[ii (hN l 2),ii (hN l 3),ii (hN l 4),ii (hN l 5)],.agg #[ii 0,ii 0]]/\Ext w w') (zw ?_);refine zl V 2 ?_;refine zl V 1 ?_;exact⟨rfl,V.ext⟩
def upN(n b:Nat):Nat:=(n+b-1)/b
def qz(n:Nat):Nat:=8+upN n 8
def qa6(n:Nat):Nat:=qz n+4*upN n 2048
def qcs(n:Nat):Nat:=qa6 n+2*upN n 256
def qbe(n m:Nat):Nat:=qcs n+4*upN m 512
def cutV(n m:Nat):Ee:=[ii 8,ii (qz n),ii (qa6 n),ii (qcs n),ii (qbe n m)]
theorem qbc(n b:Nat)(H:0<b):upN n b<=n:=by
 unfold upN
 rcases B9 n with rfl|U
 ·rw[As,D4 Oo];omega
 ·have:(n+b-1)/b<n+1:=by
   rw[Du H];have h:n+b<=n*b+1*b:=by simp_all[Nat.le_mul_of_pos_right]
   grind
  omega
theorem qadt(n b:Nat)(H:0<b):((n:Int)+(b:Int)-1)/(b:Int)=((upN n b:Nat):Int):=by
 grind [upN]
theorem qzj(n b:Nat)(w:DU)(Z:n<=8796093022208)(H:0<b)(U:b<=1048576):Gv Eg 264 [ii n,ii b] w λr w'=>r=ii (upN n b)/\w'=w:=by
 refine ze Tryz.func264 Tryz.ntmps264 ?_;refine zv ?_;have V:=qadt n b H;have W:=qbc n b H;rw[V];refine Obl.mk ⟨by omega,by omega,⟨by omega,by omega⟩⟩ (zw ?_);simp
theorem qhq(n b:Nat)(w:DU)(Z:n<=8796093022208)(H:0<b)(U:b<=1048576):Gv Eg 181 [ii n,ii b] w λr w'=>r=ii (upN n b)/\w'=w:=by
 refine ze Tryz.func181 Tryz.ntmps181 ?_;refine zv ?_;have V:=qadt n b H;have W:=qbc n b H;rw[V];refine Obl.mk ⟨by omega,by omega,⟨by omega,by omega⟩⟩ (zw ?_);simp
theorem q2q(n m:Nat)(w:DU)(hn:n<=67108864)(H:m<=67108864):Gv Eg 237 [ii n,ii m] w λr w'=>r=.agg (cutV n m).toArray/\Ext w w':=by
 have u1:=qbc n 8 Od;have u2:=qbc n 2048 Od;have u3:=qbc n 256 Od;have u4:=qbc m 512 Od;have g1:qz n=8+upN n 8:=rfl;have g2:qa6 n=qz n+4*upN n 2048:=rfl;have g3:qcs n=qa6 n+2*upN n 256:=rfl;refine ze Tryz.func237 Tryz.ntmps237 ?_;refine znm (Mem.nil w) ?_;intro r w1 H;have H:Mem w w1 [(r,.cells #[ii 0,ii 0,ii 0,ii 0,ii 0] 376)]:=H;(conv=>whnf);refine znm H λp w2 H=>zw ?_;refine StoreA.all H (i:=0) rfl rfl Od ?_;intro w3 H;have H:Mem w w3 [(p,.cells #[ii 8,ii 0,ii 0,ii 0,ii 0] 376),(r,.cells #[ii 0,ii 0,ii 0,ii 0,ii 0] 376)]:=H;(conv=>whnf);refine DrawV.own rfl Jk (zw ?_);refine zo ?_;refine zO ?_ (by intro wd U;(conv=>whnf);refine LoadV.mem (Mem.call (Mem.drew H) U) (i:=0) rfl rfl ?_;(conv=>whnf);exact PostO.still xr rfl);(conv=>whnf);refine zo ?_;apply StepO.still
 ·intro wd U;(conv=>whnf);refine zcv (qzj n 8 wd Oo Od Od) ?_;rintro v V ⟨rfl,rfl⟩;exact PostO.still xr rfl
 (conv=>whnf);refine zo ?_;refine zo ?_;intro w4 U
 (repeat(intro _;(conv=>whnf)))
 (conv=>whnf);refine StoreV.mem (H.drew.call U) (i:=0) rfl (show 1<5 by decide) rfl ?_;intro w5 H;have H:Mem w w5 [(p,.cells #[ii 8,ii (qz n),ii 0,ii 0,ii 0] 376),(r,.cells #[ii 0,ii 0,ii 0,ii 0,ii 0] 376)]:=H;(conv=>whnf);refine DrawV.own rfl Jk (zw ?_);refine zo ?_;refine zO ?_ (by intro wd U;(conv=>whnf);refine LoadV.mem (Mem.call (Mem.drew H) U) (i:=0) rfl rfl ?_;(conv=>whnf);exact PostO.still xr rfl);(conv=>whnf);refine zo ?_;apply StepO.still
 ·intro wd U;(conv=>whnf);refine zcv (qzj n 2048 wd Oo Od Od) ?_;rintro v V ⟨rfl,rfl⟩;exact PostO.still xr rfl
 (conv=>whnf);(iterate 3 (refine zo ?_));intro ad U
 (repeat(intro _;(conv=>whnf)))
 (conv=>whnf);refine StoreV.mem (H.drew.call U) (i:=0) rfl (show 2<5 by decide) rfl ?_;intro W H;have H:Mem w W [(p,.cells #[ii 8,ii (qz n),ii (qa6 n),ii 0,ii 0] 376),(r,.cells #[ii 0,ii 0,ii 0,ii 0,ii 0] 376)]:=H;(conv=>whnf);refine DrawV.own rfl Jk (zw ?_);refine zo ?_;refine zO ?_ (by intro wd U;(conv=>whnf);refine LoadV.mem (Mem.call (Mem.drew H) U) (i:=0) rfl rfl ?_;(conv=>whnf);exact PostO.still xr rfl);(conv=>whnf);refine zo ?_;apply StepO.still
 ·intro wd U;(conv=>whnf);refine zcv (qzj n 256 wd Oo Od Od) ?_;rintro v V ⟨rfl,rfl⟩;exact PostO.still xr rfl
 (conv=>whnf);(iterate 3 (refine zo ?_));intro ae U
 (repeat(intro _;(conv=>whnf)))
 (conv=>whnf);refine StoreV.mem (H.drew.call U) (i:=0) rfl (show 3<5 by decide) rfl ?_;intro Z H;have H:Mem w Z [(p,.cells #[ii 8,ii (qz n),ii (qa6 n),ii (qcs n),ii 0] 376),(r,.cells #[ii 0,ii 0,ii 0,ii 0,ii 0] 376)]:=H;(conv=>whnf);refine DrawV.own rfl Jk (zw ?_);refine zo ?_;refine zO ?_ (by intro wd U;(conv=>whnf);refine LoadV.mem (Mem.call (Mem.drew H) U) (i:=0) rfl rfl ?_;(conv=>whnf);exact PostO.still xr rfl);(conv=>whnf);refine zo ?_;apply StepO.still
 ·intro wd U;(conv=>whnf);refine zcv (qzj m 512 wd Oo Od Od) ?_;rintro v V ⟨rfl,rfl⟩;exact PostO.still xr rfl
 (conv=>whnf);(iterate 3 (refine zo ?_));intro af U
 (repeat(intro _;(conv=>whnf)))
 (conv=>whnf);refine StoreV.mem (H.drew.call U) (i:=0) rfl (show 4<5 by decide) rfl ?_;intro aa H;have H:Mem w aa [(p,.cells #[ii 8,ii (qz n),ii (qa6 n),ii (qcs n),ii (qbe n m)] 376),(r,.cells #[ii 0,ii 0,ii 0,ii 0,ii 0] 376)]:=H;(conv=>whnf);refine zl H 0 ?_;refine StoreA.all H (i:=1) rfl rfl (by intro v hv;simp at hv;rcases hv with rfl|rfl|rfl|rfl|rfl<;>rfl) λag H=>zw ?_;refine qi (R:=λr w'=>r=.agg (cutV n m).toArray/\Ext w w') (zw ?_);refine zl H 1 ?_;exact⟨rfl,H.ext⟩
theorem qnl(n m:Nat)(H:n<=67108864)(U:m<=n):qbe n m<=1000000000:=by
 grind [qbc,qbe,qcs,qa6,qz]
theorem q6b(n m:Nat)(w:DU)(H:n<=67108864)(U:m<=n):Gv Eg 168 [ii n,ii m] w λr w'=>r=ii (qbe n m)/\Ext w w':=by
 refine ze Tryz.func168 Tryz.ntmps168 ?_;refine zv ?_;refine zcv (q2q n m w H Oo) ?_;rintro v V ⟨rfl,W⟩;conv=>whnf
 simp_all
theorem qjt(n m:Nat)(w:DU)(U:n<=67108864)(V:m<=n):Gv Eg 107 [ii n,ii m] w λr w'=>r=ii (qbe n m)/\Ext w w':=by
 have W:=qbc n 8 Od;have Z:=qbc n 2048 Od;have u3:=qbc n 256 Od;have u4:=qbc m 512 Od;refine ze Tryz.func107 Tryz.ntmps107 ?_;refine zv ?_;refine zcv (qhq n 8 _ Oo Od Od) ?_;rintro v H ⟨rfl,rfl⟩;refine zu ?_;refine zcv (qhq n 2048 _ Oo Od Od) ?_;rintro v H ⟨rfl,rfl⟩;refine zu ?_;refine zcv (qhq n 256 _ Oo Od Od) ?_;rintro v H ⟨rfl,rfl⟩;refine zu ?_;refine zcv (qhq m 512 _ Oo Od Od) ?_;rintro v H ⟨rfl,rfl⟩;refine zu ?_
 grind [qbe,qcs,qa6,qz,Ext.refl]
def vN(l:LB):Nat:=leN (l.take 4)
def vM(l:LB):Nat:=leN ((l.drop 4).take 4)
def vOk(l:LB):Bool:=decide (8<=l.length)&&decide (vN l<=67108864)&&decide (vM l<=vN l)&&decide (l.length=qbe (vN l) (vM l))
def vecC(s:DZ)(n m:Nat):Eh:=#[s,ii n,ii m,ii 8,ii (qz n),ii (qa6 n),ii (qcs n),ii (qbe n m)]
def vecO(t:DX)(s:DZ)(n m:Nat):Obj:=.cells (vecC s n m) t
structure Sto(wd:DU)(F:Ec)(s4 s8 s9 s12:Bool)(w:DU):Prop where
 a:s12=false->Ext wd w
 f:s12=true->F w/\s4=true/\s8=true/\s9=true
section
variable {wd w w':DU} {F:Ec} {s4 s8 s9 s12:Bool}
theorem Sto.start:Sto wd F false false false false wd:=⟨λ_=>xr,Js⟩
theorem Sto.of{H U V:Bool}(h:Sto wd F s4 s8 s9 s12 w)(W:s12=false)(Z:Ext w w'):Sto wd F H U V s12 w':=⟨λh'=>(h.a h').trans Z,(by grind)⟩
theorem Sto.z4(h:Sto wd F false s8 s9 s12 w):s12=false:=by
 cases H:s12
 ·rfl
 ·have:=(h.f H).2.1;cases this
theorem Sto.z8(h:Sto wd F s4 false s9 s12 w):s12=false:=by
 cases H:s12
 ·rfl
 ·have:=(h.f H).2.2.1;cases this
theorem Sto.z9(h:Sto wd F s4 s8 false s12 w):s12=false:=by
 cases H:s12
 ·rfl
 ·have:=(h.f H).2.2.2;cases this
end
theorem qabc(l:LB)(A:oA)(c:Nat)(w:DU)(hS:SlAt encB 1 w A l)(hc:l.length<=c)(hl:l.length<=140737488355328)(hv:vOk l=true):
  Gv Eg 238 [.slice A l.length c] w λv w'=>(∃b,v=.tuple #[pp b,.bool true,.nilIface]/\w.heap.size<=b/\w'.heap[b]?=some (vecO 381 (.slice A l.length c) (vN l) (vM l)))/\Ext w w':=by
 simp only[vOk,AQ,decide_eq_true_eq]at hv;obtain⟨⟨⟨h8,g1⟩,g2⟩,hz⟩:=hv;refine ze Tryz.func238 Tryz.ntmps238 ?_;refine zv ?_;obtain⟨g,off,hA,_⟩:=hS.at_ (by grind);subst hA;refine DrawV.free Jk Jk (zw ?_);refine zd ?_;refine zd ?_;apply zsd
 ·intro wd V;(conv=>whnf);refine zcv (qp0 l (some ⟨g,off,none⟩) _ c wd (hS.ext ((Ext.refl w).drew.trans V)) rfl Oo) ?_;rintro v w9 ⟨rfl,W⟩;exact⟨W,rfl⟩
 (conv=>whnf);refine zd ?_;apply zsd
 ·intro wd V;(conv=>whnf);refine SliceV.rest 4 rfl hc Oo (zw ?_);exact xq
 (conv=>whnf);apply zsd
 ·intro wd V;(conv=>whnf);refine zcv (qp0 (l.drop 4) _ _ _ wd (SlAt.rest (hS.ext ((Ext.refl w).drew.trans V)) Oo) (by rw[zld]) (by rw[zld];omega)) ?_;rintro v w9 ⟨rfl,W⟩;exact⟨W,rfl⟩
 (conv=>whnf);refine zd ?_;apply StepD.of (λv wx=>∃b,v=pp b/\w.drew.heap.size<=b/\wx.heap[b]?=some (.cells #[.slice (some ⟨g,off,none⟩) l.length c,ii (vN l),ii (vM l),ii 0,ii 0,ii 0,ii 0,ii 0] 381))
  (λ_ _ _ h he=>let⟨b,h1,h2,h3⟩:=h;⟨b,h1,h2,he.get h3⟩)
 ·intro wd V;(conv=>whnf);refine⟨λx wx hb hw=>?_⟩;subst hb hw;(conv=>whnf);exact⟨xr.alloc _,_,rfl,V.size,heap_alloc_new _ _⟩
 (conv=>whnf);apply StepD.of (λv wx=>∃b,v=pp b/\w.drew.heap.size<=b/\wx.heap[b]?=some (.cells #[.slice (some ⟨g,off,none⟩) l.length c,ii (vN l),ii (vM l),ii 0,ii 0,ii 0,ii 0,ii 0] 381))
  (λ_ _ _ h he=>let⟨b,h1,h2,h3⟩:=h;⟨b,h1,h2,he.get h3⟩)
 ·intro wd V;(conv=>whnf);rintro _ _;(conv=>whnf);rintro v ⟨b,rfl,h1,h2⟩;conv=>whnf
  grind [Ext.refl]
 (conv=>whnf);intro w9 aa;(conv=>whnf);rintro v ⟨b,rfl,hb,ho⟩;(conv=>whnf);intro _ _;(conv=>whnf);have U:=(Mem.nil w).drew.fresh aa hb ho;refine LoadV.mem (i:=0) Oa rfl rfl (zw ?_);refine zt ?_;refine zy ?_;have U:=U.drew;refine zt ?_;refine LoadV.mem (i:=0) Oa rfl rfl (zw ?_);refine zt ?_;refine LoadV.mem (i:=0) Oa rfl rfl (zw ?_);refine zt ?_;obtain⟨F,hF⟩:∃F:DU->Prop,F=λw'=>Mem w w' [(b,vecO 381 (.slice (some ⟨g,off,none⟩) l.length c) (vN l) (vM l))]:=⟨_,rfl⟩
 obtain⟨w3,ad⟩:∃w3:DU,w3=w9.drew:=⟨_,rfl⟩
 rw[<-ad]at U|-;refine DrawV.inv (λS w'=>Sto w3.drew F (S 4) (S 8) (S 9) (S 12) w') rfl Jk Sto.start (zw ?_);(iterate 4 (refine zi ?_));refine StepI.of (ii (vN l)) (λS wd Z hp H=>?_) (zw ?_)
 ·dsimp only at H;rw[Z]at H;(conv=>whnf);refine LoadV.mem (U.drew.call (H.a H.z4)) (i:=0) rfl rfl (zw ?_);exact⟨rfl,H.of H.z4 xr⟩
 (iterate 3 (refine zi ?_));refine StepI.of (ii (vM l)) (λS wd Z hp H=>?_) (zw ?_)
 ·dsimp only at H;rw[Z]at H;(conv=>whnf);refine LoadV.mem (U.drew.call (H.a H.z8)) (i:=0) rfl rfl (zw ?_);exact⟨rfl,H.of H.z8 xr⟩
 refine StepI.of (.agg (cutV (vN l) (vM l)).toArray) (λS wd Z hp H=>?_) (zw ?_)
 ·dsimp only at H;rw[Z]at H;(conv=>whnf);refine zcv (q2q (vN l) (vM l) wd Oo Oo) ?_;rintro v w9 ⟨rfl,W⟩;exact⟨rfl,H.of H.z9 W⟩
 refine zi ?_;refine zi ?_;refine StepI.of undef (λS wd Z hp H=>?_) (zw ?_)
 ·dsimp only at H;have h4:S 4=true:=hp 4 Od;have ae:S 8=true:=hp 8 Od;have W:S 9=true:=hp 9 Od;rw[Z]at H;(conv=>whnf);refine StoreA.mem (U.drew.call (H.a rfl)) (i:=0) rfl (show 3+5<=8 by decide) (by intro v hv;simp[cutV]at hv;rcases hv with rfl|rfl|rfl|rfl|rfl<;>rfl) λwx af=>zw ?_;exact⟨rfl,λh=>(by cases h),λ_=>⟨by rw[hF];exact af,h4,ae,W⟩⟩
 intro ag H;have U:=(H.f rfl).1;rw[hF]at U;(conv=>whnf);refine zr U 0 ?_;refine zv ?_;refine zy ?_;have U:=U.drew;refine zt ?_;refine LoadV.mem (i:=0) Oa rfl rfl (zw ?_);refine zt ?_;exact⟨⟨b,by simp[hz],(U.own _ mh).1,U.get Js⟩,U.ext⟩
theorem qacd(l:LB)(A:oA)(c:Nat)(w:DU)(U:SlAt encB 1 w A l)(V:l.length<=c)(W:l.length<=140737488355328)(Z:vOk l=true):
  Gv Eg 169 [.slice A l.length c] w λv w'=>(∃b,v=.tuple #[pp b,.nilIface]/\w.heap.size<=b/\w'.heap[b]?=some (vecO 381 (.slice A l.length c) (vN l) (vM l)))/\Ext w w':=by
 have H:=qabc l A c w U V W Z;refine ze Tryz.func169 Tryz.ntmps169 ?_;refine zcv (H) ?_;rintro v w1 ⟨⟨b,rfl,hb,ho⟩,he⟩;refine zu ?_;exact⟨⟨b,rfl,hb,ho⟩,he⟩
end Go.Proofs.YtccmcfpmknpccaaGreatDoor
