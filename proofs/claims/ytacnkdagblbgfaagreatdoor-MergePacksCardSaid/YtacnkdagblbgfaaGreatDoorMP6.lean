/- Lemmas and contracts of functions on the way to the law's card (part 6 of 9). -/
import Derived.Test.YtacnkdagblbgfaaGreatDoorMP5
import Derived.Laws.CopyRow
import Derived.Laws.IdiomCopy
import Derived.Lib.AppendStr
import Derived.Shelf.SlSortCmp.WholeK
import Derived.Test.YtacnkdagblbgfaaGreatDoorProg
namespace Go.Proofs.YtacnkdagblbgfaaGreatDoor
set_option maxHeartbeats 8000000
open Go.RowKit V
def tz8 (x:Nat):Nat:=if x%2=1 then 0 else if x/2%2=1 then 1 else if x/4%2=1 then 2 else if x/8%2=1 then 3 else if x/16%2=1 then 4 else if x/32%2=1 then 5 else if x/64%2=1 then 6 else if x/128%2=1 then 7 else 8
def hi8 (x t:Nat):Nat:=x/2 ^ t*2 ^ t
theorem q7x {x t:Nat} (h:x<256):hi8 x t<256:=Nat.lt_of_le_of_lt (Nat.div_mul_le_self _ _) h
theorem q2b (x:Nat):hi8 x 0=x:=by simp [hi8]
theorem q66:∀ x,x<256→∀ t,t<9→hi8 x t≠0→t≤tz8 (hi8 x t)∧tz8 (hi8 x t)<8∧x/2 ^ tz8 (hi8 x t)%2=1∧(hi8 x t) &&&(hi8 x t-1)=hi8 x (tz8 (hi8 x t)+1):=by decide +kernel
theorem q67:∀ x,x<256→∀ t,t<9→∀ s,s<8→t≤s→s<tz8 (hi8 x t)→x/2 ^ s%2=0:=by decide +kernel
theorem q8v:∀ x,x<256→∀ t,t<9→hi8 x t=0→∀ s,s<8→t≤s→x/2 ^ s%2=0:=by decide +kernel
theorem qqd (d:LB) (b s:Nat) (hs:s<8):bitN d (8*b+s)=(d.getD b 0).toNat/2 ^ s%2:=by
 rw [bitN,show (8*b+s)/8=b by omega,show (8*b+s)%8=s by omega]
theorem qtn {d:LB} {b t:Nat}:∀ {u:Nat},t≤u→(∀ s,t≤s→s<u→bitN d (8*b+s)=0)→mkD d b u=mkD d b t∧cnt d (8*b+u)=cnt d (8*b+t):=by
 intro u hu
 induction hu with
 | refl=>intro _;exact ⟨rfl,rfl⟩
 | step hu ih=>
  rename_i u
  intro h;obtain ⟨h1,h2⟩:=ih fun s a b=>h s a Oo;have h3:=h u hu Oo;rw [mkD,if_neg (by rw [h3];omega)];refine ⟨h1,?_⟩;show cnt d (8*b+u)+bitN d (8*b+u)=_;rw [h3,h2,Nat.add_zero]
theorem qy7 {d:LB} {b t:Nat} (ht:t<9) (h:hi8 (d.getD b 0).toNat t≠0) {u:Nat} (hu:u=tz8 (hi8 (d.getD b 0).toNat t)) :
  t≤u∧u<8∧bitN d (8*b+u)=1∧cnt d (8*b+u)=cnt d (8*b+t)∧mkD d b u=mkD d b t∧(hi8 (d.getD b 0).toNat t) &&&(hi8 (d.getD b 0).toNat t-1)=hi8 (d.getD b 0).toNat (u+1):=by
 obtain ⟨h1,h2,h3,h4⟩:=q66 _ (qbg _) t ht h;rw [← hu] at h1 h2 h3 h4;obtain ⟨h5,h6⟩:=qtn (d:=d) (b:=b) h1 fun s a b'=>by
  rw [qqd _ _ _ Oo];exact q67 _ (qbg _) t ht s Oo a (by rw [← hu];exact b')
 exact ⟨h1,h2,by rw [qqd _ _ _ h2];exact h3,h6,h5,h4⟩
theorem q52 {d:LB} {b t:Nat} (ht:t<9) (h:hi8 (d.getD b 0).toNat t=0):mkD d b 8=mkD d b t∧cnt d (8*(b+1))=cnt d (8*b+t):=by
 rcases Nat.lt_or_ge t 8 with h8|h8
 ·exact qtn (d:=d) (b:=b) (Nat.le_of_lt h8) fun s a b'=>by
   rw [qqd _ _ _ b'];exact q8v _ (qbg _) t ht h s b' a
 ·obtain rfl:t=8:=by omega
  exact ⟨rfl,rfl⟩
set_option maxRecDepth 100000
theorem qvv (d:LB) (A:oA) (l c n:Nat) (w:World) (hS:SlAt encB 1 w A d) (hl:d.length=l) (hd:d.length=upN n 8) (hb:n≤67108864) :
  Gv Tryz.prog 171 [.slice A l c,ii n] w fun v w'=>(∃ b,v=.bool b∧(b=true↔¬ PadB d n))∧w'=w:=by
 have hu:upN n 8=(n+7)/8:=rfl;refine ze Tryz.func171 Tryz.ntmps171 ?_;refine zt ?_;refine zC (fun _=>zu ?_) (fun _=>zu ?_)
 ·exact ⟨⟨true,rfl,⟨fun _ h=>((qty hd).1 h).1 Oo,fun _=>rfl⟩⟩,rfl⟩
 have hi:n/8<d.length:=by omega
 refine ElemV.bs hS hl (n/8) Oo Oo ?_;intro eb eo hc;refine zu ?_;refine LoadV.of hc (zu ?_);refine V.Wit.shrN (n%8) Oo (by show n%8<8;omega) (zu ?_);have hg:d.getD (n/8) 0=d[n/8]:=by rw [List.getD_eq_getElem?_getD,zge hi];rfl
 refine ⟨⟨_,rfl,?_⟩,rfl⟩;rw [qty hd,hg];obtain ⟨X,eX⟩:∃ X,X=d[n/8].toNat/2 ^ (n%8):=⟨_,rfl⟩
 rw [← eX];simp only [decide_eq_true_eq];omega
theorem qxp (d:LB) (A:oA) (l c:Nat) (w:World) (hS:SlAt encB 1 w A d) (hl:d.length=l) (hb:l≤67108864) :
  Gv Tryz.prog 172 [.slice A l c] w fun v w'=>v=ii (cnt d (8*d.length))∧w'=w:=by
 refine ze Tryz.func172 Tryz.ntmps172 ?_;refine qe (fun i:Nat=>[(3,ii (cnt d (8*i))),(6,.slice A l c),(7,ii l),(8,ii i)]) (fun i w'=>i≤l∧w'=w) (fun i=>l-i) 0 ⟨rfl,rfl,rfl,rfl,trivial⟩ ⟨Nat.zero_le _,rfl⟩ ?_;rintro i w1 ρ' ⟨i1,rfl⟩;have hc8:=qeh d (8*i);(conv=>whnf);refine zC (fun _=>zw ?_) (fun _=>zw ?_)
 ·have hi:i<d.length:=by omega
  refine ElemV.bs hS hl i rfl Oo ?_;intro eb eo hc;(conv=>whnf);refine LoadV.of hc (zw ?_);refine zcv (qzh d[i].toNat _ (qbg _)) ?_;rintro r w2 ⟨rfl,rfl⟩;have h8:qm0 d[i].toNat≤8:=by unfold qm0;omega
  have hs:cnt d (8*(i+1))=cnt d (8*i)+qm0 d[i].toNat:=by
   have:=q1v d i 1;rw [this,qe9,qe9,Nat.add_zero,List.getD_eq_getElem?_getD,zge hi,Nat.zero_add];rfl
  refine zu ?_;exact ⟨i+1,⟨by rw [hs];exact congrArg (Value.int .i64) Oo,rfl,rfl,rfl,trivial⟩,⟨by omega,rfl⟩,by omega⟩
 ·obtain rfl:i=l:=by omega
  exact ⟨by rw [hl],rfl⟩
theorem q65 (x:Nat) (w:World) (hx:x<256):Gv Tryz.prog 225 [.int .u8 x] w fun r w'=>r=ii (tz8 x)∧w'=w:=by
 refine ze Tryz.func225 Tryz.ntmps225 ?_;refine IdxV.nat (by show x<256;exact hx) (zw ?_);refine Wit.conv (qiz (Nat.lt_of_lt_of_le (qbg _) Od)) (zw ?_);refine ⟨congrArg (Value.int .i64) (congrArg Int.ofNat ?_),rfl⟩;clear w
 revert x
 decide +kernel
theorem ah8 (d:LB) (b:Nat):ahN d (8*(b+1))=cnt d (2048*(8*b/2048)):=by
 rw [ahN,if_neg Oo,show (8*(b+1)-1)/2048=8*b/2048 by omega]
theorem ah8' (d:LB) (b:Nat) (h:8*b%2048≠0):ahN d (8*b)=cnt d (2048*(8*b/2048)):=by
 rw [ahN,if_neg Oo,show (8*b-1)/2048=8*b/2048 by omega]
theorem qsp (x:Nat) (h:x<256) (h0:x≠0):qdd .and .u8 (x:Int) ((x:Int)-1)=((x &&&(x-1):Nat):Int):=by
 have e:(x:Int)-1=((x-1:Nat):Int):=by omega
 rw [e];exact ql2 (qd8 h) (qd8 Oo)
theorem qme (d:LB) (A:oA) (l c n:Nat) (w:World) (hl:d.length=l) (hd:d.length=upN n 8) (hb:n≤67108864) (g:FuncId) (c1 c2:Value) (I:List (Nat × Nat × Nat)→World→Prop)
  (hIx:∀ L w',I L w'→SlAt encB 1 w' A d) (h0:I [] w)
  (ht:∀ L x w',I L w'→x∈dirD d (upN n 8)→Gv Tryz.prog g [ii x.1,ii x.2.1,ii x.2.2,c1,c2] w' fun r w''=>r=.bool true∧I (L++[x]) w'') :
  Gv Tryz.prog 175 [.slice A l c,ii n,.func (.func g) #[] #[c1,c2]] w fun r w'=>r=.bool true∧I (dirD d (upN n 8)) w':=by
 have hu:upN n 8=(n+7)/8:=rfl;refine ze Tryz.func175 Tryz.ntmps175 ?_;refine qe (fun b:Nat=>[(0,.slice A l c),(1,ii n),(2,.func (.func g) #[] #[c1,c2]),(7,ii (cnt d (8*b))),(8,ii (ahN d (8*b))),(9,ii (8*b:Nat))]) (fun b w'=>b≤upN n 8∧I (dirD d b) w') (fun b=>upN n 8-b) 0
  ⟨rfl,rfl,rfl,rfl,rfl,rfl,trivial⟩ ⟨Nat.zero_le _,h0⟩ ?_
 rintro b w1 ρ' ⟨b1,hI⟩;have hcb:=qeh d (8*b);have hcm:cnt d (2048*(8*b/2048))≤cnt d (8*b):=qio Oo;have hnext:∀ {x},b<upN n 8→x∈grD d b∨x∈smD d b∨x∈mkD d b 8→x∈dirD d (upN n 8):=fun hbn hx=>qd0.2 ⟨b,hbn,hx⟩
 (conv=>whnf)
 (repeat' (first|refine zp ?_|refine zC (fun _=>zw ?_) (fun _=>zw ?_)))
 case' refine_1.refine_1=>
  have hbn:b<upN n 8:=by omega
  have hbl:b<d.length:=by omega
  rw [show ((8*b:Nat):Int)/2048=((8*b/2048:Nat):Int) by omega];have hgr:grD d b=[(2048,8*b/2048,cnt d (8*b))]:=by rw [grD,if_pos Oo]
  have hsm:smD d b=[(256,8*b/256,cnt d (8*b)-cnt d (2048*(8*b/2048)))]:=by rw [smD,if_pos Oo]
  have ha:cnt d (8*b)=cnt d (2048*(8*b/2048)):=by rw [show 2048*(8*b/2048)=8*b by omega]
  refine zcv (ht (dirD d b) (2048,8*b/2048,cnt d (8*b)) w1 hI (hnext hbn (.inl (by rw [hgr];exact List.mem_singleton.2 rfl)))) ?_;rintro r w2 ⟨rfl,hI2⟩;rw [← hgr] at hI2;refine zu ?_;rw [show ((8*b:Nat):Int)/256=((8*b/256:Nat):Int) by omega,show (cnt d (8*b):Int)-(cnt d (8*b):Int)=((cnt d (8*b)-cnt d (2048*(8*b/2048)):Nat):Int) by omega];refine zcv (ht (dirD d b++grD d b) (256,8*b/256,cnt d (8*b)-cnt d (2048*(8*b/2048))) w2 hI2 (hnext hbn (.inr (.inl (by rw [hsm];exact List.mem_singleton.2 rfl))))) ?_;rintro r w3 ⟨rfl,hI3⟩;rw [← hsm,List.append_assoc] at hI3;refine zu ?_
 case' refine_1.refine_2.refine_1=>
  have hbn:b<upN n 8:=by omega
  have hbl:b<d.length:=by omega
  have hgr:grD d b=[]:=by rw [grD,if_neg Oo]
  have hsm:smD d b=[(256,8*b/256,cnt d (8*b)-cnt d (2048*(8*b/2048)))]:=by rw [smD,if_pos Oo]
  have ha:=ah8' d b Oo;refine zv ?_;rw [show ((8*b:Nat):Int)/256=((8*b/256:Nat):Int) by omega,show (cnt d (8*b):Int)-(ahN d (8*b):Int)=((cnt d (8*b)-cnt d (2048*(8*b/2048)):Nat):Int) by omega];refine zcv (ht (dirD d b) (256,8*b/256,cnt d (8*b)-cnt d (2048*(8*b/2048))) w1 hI (hnext hbn (.inr (.inl (by rw [hsm];exact List.mem_singleton.2 rfl))))) ?_;rintro r w3 ⟨rfl,hI3⟩;rw [← hsm,← List.nil_append (smD d b),← hgr] at hI3;refine zu ?_
 case' refine_1.refine_2.refine_2=>
  have hbn:b<upN n 8:=by omega
  have hbl:b<d.length:=by omega
  have hgr:grD d b=[]:=by rw [grD,if_neg Oo]
  have hsm:smD d b=[]:=by rw [smD,if_neg Oo]
  have ha:=ah8' d b Oo;have hI3:I (dirD d b++(grD d b++smD d b)) w1:=by rw [hgr,hsm,List.append_nil,List.append_nil];exact hI
 case' refine_2=>
  obtain rfl:b=upN n 8:=by omega
  exact ⟨rfl,hI⟩
 all_goals
  refine ElemV.bs (hIx _ _ hI3) hl b Oo Oo ?_;intro eb eo hc;(conv=>whnf);refine LoadV.of hc (zw ?_);have hX:d[b]=d.getD b 0:=by rw [List.getD_eq_getElem?_getD,zge hbl];rfl
  refine qe (fun t:Nat=>[(0,.slice A l c),(1,ii n),(2,.func (.func g) #[] #[c1,c2]),(7,ii (cnt d (8*b+t))),(8,ii (cnt d (2048*(8*b/2048)))),(9,ii (8*b:Nat)),(10,.int .u8 (hi8 (d.getD b 0).toNat t))])
   (fun t w'=>t≤8∧I (dirD d b++(grD d b++(smD d b++mkD d b t))) w') (fun t=>9-t) 0
   ⟨rfl,rfl,rfl,rfl,congrArg (fun n:Nat=>ii n) ha,rfl,congrArg (fun n:Nat=>Value.int .u8 n) (by rw [q2b,hX]),trivial⟩ ⟨Nat.zero_le _,by rw [mkD,List.append_nil];exact hI3⟩ ?_
  rintro t w4 ρ2 ⟨t8,hI4⟩;have hlt:=q7x (t:=t) (qbg (d.getD b 0));have hct:=qeh d (8*b+t);conv=>whnf
  (repeat' (first|refine zp ?_|refine zC (fun _=>zw ?_) (fun _=>zw ?_)))
  ·rename_i hz h5
   obtain ⟨m1,m2,m3,m4,m5,m6⟩:=qy7 (d:=d) (b:=b) (t:=t) Oo Oo rfl;obtain ⟨u,eu⟩:∃ u,u=tz8 (hi8 (d.getD b 0).toNat t):=⟨_,rfl⟩
   have hq:=q65 (hi8 (d.getD b 0).toNat t);rw [← eu] at m1 m2 m3 m4 m5 m6 hq;have hc1:cnt d (8*b+(u+1))=cnt d (8*b+t)+1:=by rw [show 8*b+(u+1)=8*b+u+1 from rfl,cnt,m3,m4]
   have hmk:mkD d b (u+1)=mkD d b t++[(512,cnt d (8*b+t)/512,8*b+u)]:=by rw [mkD,if_pos ⟨m3,by omega⟩,m5,m4]
   rw [show (cnt d (8*b+t):Int)/512=((cnt d (8*b+t)/512:Nat):Int) by omega];refine zcv (hq w4 hlt) ?_;rintro r w5 ⟨rfl,rfl⟩;refine zu ?_;rw [show ((8*b:Nat):Int)+(u:Int)=((8*b+u:Nat):Int) by omega];refine zcv (ht _ (512,cnt d (8*b+t)/512,8*b+u) w5 hI4 (hnext hbn (.inr (.inr (qhp.2 ⟨u,m2,m3,by omega,by rw [m4]⟩))))) ?_;rintro r w6 ⟨rfl,hI6⟩;rw [List.append_assoc,List.append_assoc,List.append_assoc,← hmk] at hI6;refine zu ?_;refine Wit.eq (qsp _ hlt Oo) ?_;rw [m6];(conv=>whnf);exact ⟨u+1,⟨rfl,rfl,rfl,by rw [hc1];rfl,rfl,rfl,rfl,trivial⟩,⟨by omega,hI6⟩,by omega⟩
  ·rename_i hz h5
   obtain ⟨m1,m2,m3,m4,m5,m6⟩:=qy7 (d:=d) (b:=b) (t:=t) Oo Oo rfl;obtain ⟨u,eu⟩:∃ u,u=tz8 (hi8 (d.getD b 0).toNat t):=⟨_,rfl⟩
   rw [← eu] at m1 m2 m3 m4 m5 m6;have hc1:cnt d (8*b+(u+1))=cnt d (8*b+t)+1:=by rw [show 8*b+(u+1)=8*b+u+1 from rfl,cnt,m3,m4]
   have hmk:mkD d b (u+1)=mkD d b t:=by rw [mkD,if_neg Oo,m5]
   refine Wit.eq (qsp _ hlt Oo) ?_;rw [m6];(conv=>whnf);exact ⟨u+1,⟨rfl,rfl,rfl,by rw [hc1];rfl,rfl,rfl,rfl,trivial⟩,⟨by omega,by rw [hmk];exact hI4⟩,by omega⟩
  ·obtain ⟨m1,m2⟩:=q52 (d:=d) (b:=b) (t:=t) Oo Oo;exact ⟨b+1,⟨rfl,rfl,rfl,by rw [m2];rfl,by rw [ah8];rfl,congrArg (Value.int .i64) Oo,trivial⟩,⟨by omega,by rw [dirD,m1];exact hI4⟩,by omega⟩
theorem qxu {d:LB} {nb:Nat} {x:Nat × Nat × Nat} (h:x∈dirD d nb):x.1=2048∨x.1=256∨x.1=512:=by
 obtain ⟨b,_,hx|hx|hx⟩:=qd0.1 h
 ·unfold grD at hx
  split at hx
  ·rw [List.mem_singleton.1 hx];exact .inl rfl
  ·cases hx
 ·unfold smD at hx
  split at hx
  ·rw [List.mem_singleton.1 hx];exact .inr (.inl rfl)
  ·cases hx
 ·obtain ⟨s,_,_,_,e⟩:=qhp.1 hx;rw [e];exact .inr (.inr rfl)
theorem qz9 (k n:Nat) (w:World):Gv Tryz.prog 161 [ii k,ii n] w fun r w'=>r=.bool (decide (¬ ((k≠0∧n=0)∨4194304<n)))∧w'=w:=by
 refine ze Tryz.func161 Tryz.ntmps161 ?_;refine V.Fall.min2 rfl rfl rfl fun m hm=>?_;(conv=>whnf);refine zC (fun _=>zu ?_) (fun _=>zu ?_)
 all_goals refine ⟨congrArg Value.bool ?_,rfl⟩
 all_goals first|exact (decide_eq_false Oo).symm|exact decide_eq_decide.2 Oo
section
variable {w0 w w':World} {t:TypeId} {n:Nat} {s:Bool} {v:Value}
end
theorem qw2 (a b:ByteArray) (w:World) (ha:a.size≤4194304) :
  Gv Tryz.prog 153 [.string a,.string b] w fun r w'=>r=ii (comL a.data.toList b.data.toList)∧Ext w w':=by
 have la:a.data.toList.length=a.size:=rfl;have lb:b.data.toList.length=b.size:=rfl;refine ze Tryz.func153 Tryz.ntmps153 ?_;refine qe (fun i:Nat=>[(0,.string a),(1,.string b),(5,ii i)]) (fun i w'=>i≤a.size∧i≤b.size∧(∀ j,j<i→a.data.toList[j]?=b.data.toList[j]?)∧Ext w w') (fun i=>a.size-i) 0 ⟨rfl,rfl,rfl,trivial⟩ ⟨Nat.zero_le _,Nat.zero_le _,fun j h=>by omega,xr⟩ ?_;rintro i w1 ρ' ⟨i1,i2,i3,he⟩;(conv=>whnf);refine zy ?_
 (repeat' (first|refine zp ?_|refine zC (fun _=>zw ?_) (fun _=>zw ?_)))
 all_goals first
  | exact ⟨i+1,⟨rfl,rfl,rfl,trivial⟩,⟨by omega,by omega,fun j hj=>by
    by_cases e:j=i
    ·subst e;rw [qej Oo,qej Oo];exact congrArg some (UInt8.toNat_inj.1 Oo)
    ·exact i3 j Oo,he.drew⟩,by omega⟩
  | exact ⟨by rw [qi5 i3 Oo Oo fun g1 g2=>by omega],he.drew⟩
  | (refine ⟨?_,he.drew⟩;rw [qi5 i3 Oo Oo fun g1 g2=>by
    rw [qej Oo,qej Oo];intro e;have:=congrArg UInt8.toNat (Option.some.inj e);omega])
def q80 (w:World) (x:Nat):Prop:=(∀ off k c,w.cell? ⟨x,off,none⟩≠some (.int k c))∧∀ cs t fz,w.heap[x]?=some (.cells cs t fz)→t≠317∧t≠204∧t≠295∧t≠226
section
variable {w w':World} {x:Nat} (ha:q80 w x) (hw:∀ c,c≠x→w'.heap[c]?=w.heap[c]?)
include ha hw
end
namespace V
end V
namespace V
theorem LoadA.own {w:World} {b size:Nat} {cs:Array Value} {t:TypeId} {fr:Nat × Nat} {K:List Value→Prop} (h:w.heap[b]?=some (.cells cs t fr)) (hs:cs.toList.length=size) (hk:K cs.toList):LoadA w b 0 size K:=
 ⟨cs.toList,hs,fun j _=>by rw [qa h,Nat.zero_add];simp,hk⟩
end V
theorem qwp (b:Nat) (l:LB) (w:World) (h:VocAt w b l):Gv Tryz.prog 60 [pp b] w fun r w'=>r=ii (vTot l 3)∧w'=w:=by
 obtain ⟨d,_,hn⟩:=h.cell;refine ze Tryz.func60 Tryz.ntmps60 ?_;refine LoadV.of hn (zw ?_);exact ⟨rfl,rfl⟩
def h24 (nq nt nv nr:Nat):LB:=fixL 1095914324 4++(fixL 1 4++(fixL nq 4++(fixL nt 4++(fixL nv 4++fixL nr 4))))
def sumL (p:LB):LB:=fixL (crcL p).toNat 4
def qm3 (nq nt:Nat) (V T:LB):LB:=
 h24 nq nt V.length T.length++(sumL (h24 nq nt V.length T.length)++(V++(sumL V++(T++sumL T))))
theorem qqp (a b c d:Nat):(h24 a b c d).length=24:=by simp [h24,qf]
theorem qnp (p:LB):(sumL p).length=4:=qf _ _
section
variable {nq nt:Nat} {V T:LB} (h1:nq<4294967296) (h2:nt<4294967296) (h3:V.length+T.length+36≤67108864)
theorem q2y (nq nt:Nat) (V T:LB):(qm3 nq nt V T).length=V.length+T.length+36:=by
 simp only [qm3,zla,qqp,qnp];omega
include h1 in
include h2 in
include h3
end
theorem RiseT.at {T:List TM} (h:RiseT T) {i j:Nat} {a b:TM} (hij:i<j) (ha:T[i]?=some a) (hb:T[j]?=some b):LtT a b:=by
 obtain ⟨h1,rfl⟩:=List.getElem?_eq_some_iff.1 ha;obtain ⟨h2,rfl⟩:=List.getElem?_eq_some_iff.1 hb;exact (List.pairwise_iff_getElem.1 h) i j h1 h2 hij
theorem RiseT.inj {T:List TM} (h:RiseT T) {i j:Nat} {a:TM} (ha:T[i]?=some a) (hb:T[j]?=some a):i=j:=by
 rcases Nat.lt_trichotomy i j with g|g|g
 ·exact absurd (h.at g ha hb) (LtT.irrefl a)
 ·exact g
 ·exact absurd (h.at g hb ha) (LtT.irrefl a)
theorem RiseT.lt {T:List TM} (h:RiseT T) {i j:Nat} {a b:TM} (ha:T[i]?=some a) (hb:T[j]?=some b) (hl:LtT a b):i<j:=by
 rcases Nat.lt_trichotomy i j with g|g|g
 ·exact g
 ·subst g;rw [ha] at hb;cases hb;exact absurd hl (LtT.irrefl a)
 ·exact absurd (hl.trans (h.at g hb ha)) (LtT.irrefl a)
theorem RiseT.ext:∀ {S T:List TM},RiseT S→RiseT T→(∀ y,y∈S↔y∈T)→S=T
 | [],[],_,_,_=>rfl
 | [],b::T,_,_,h=>absurd ((h b).2 mh) Js
 | a::S,[],_,_,h=>absurd ((h a).1 mh) Js
 | a::S,b::T,hs,ht,h=>by
  obtain ⟨s1,s2⟩:=List.pairwise_cons.1 hs;obtain ⟨t1,t2⟩:=List.pairwise_cons.1 ht;have e:a=b:=by
   rcases List.mem_cons.1 ((h a).1 mh) with g|g
   ·exact g
   ·rcases List.mem_cons.1 ((h b).2 mh) with g2|g2
    ·exact g2.symm
    ·exact absurd ((t1 a g).trans (s1 b g2)) (LtT.irrefl b)
  subst e
  congr 1
  refine RiseT.ext s2 t2 fun y=>⟨fun hy=>?_,fun hy=>?_⟩
  ·rcases List.mem_cons.1 ((h y).1 (zmc hy)) with g|g
   ·subst g;exact absurd (s1 y hy) (LtT.irrefl y)
   ·exact g
  ·rcases List.mem_cons.1 ((h y).2 (zmc hy)) with g|g
   ·subst g;exact absurd (t1 y hy) (LtT.irrefl y)
   ·exact g
def noT (T:List TM) (t:TM):Nat:=if t.kind=0 then 0 else T.findIdx (fun x=>cmpT x t==0)+1
theorem qis {T:List TM} {t:TM} (h:t.kind=0):noT T t=0:=by rw [noT,if_pos h]
theorem qtr {T:List TM} (h:RiseT T) {i:Nat} {t:TM} (ht:T[i]?=some t) (hk:t.kind≠0):noT T t=i+1:=by
 obtain ⟨h1,h2⟩:=List.getElem?_eq_some_iff.1 ht;rw [noT,if_neg hk];have h3:T.findIdx (fun x=>cmpT x t==0)<T.length:=List.findIdx_lt_length_of_exists ⟨t,zmg ht,by simp [qbh]⟩;have h4:=List.findIdx_getElem (w:=h3);rw [beq_iff_eq,qbh] at h4;have:=h.inj (i:=T.findIdx (fun x=>cmpT x t==0)) (j:=i) (by rw [zge h3,h4]) ht;omega
theorem q8d (T:List TM) (t:TM) (h:t∈T∨t.kind=0):noT T t≤T.length:=by
 unfold noT
 split
 ·omega
 ·rename_i h0
  have:=List.findIdx_lt_length_of_exists (p:=fun x=>cmpT x t==0) (xs:=T) ⟨t,h.resolve_right h0,by simp [qbh]⟩;omega
theorem q8e {T:List TM} (h:RiseT T) (_:∀ t∈T,0≤t.kind) {a b:TM} (ha:a∈T∨a.kind=0) (hb:b∈T) (hk:b.kind≠0) (hl:LtT a b):noT T a<noT T b:=by
 obtain ⟨j,hj⟩:=List.mem_iff_getElem?.1 hb;rw [qtr h hj hk]
 by_cases e:a.kind=0
 ·rw [qis e];omega
 ·obtain ⟨i,hi⟩:=List.mem_iff_getElem?.1 (ha.resolve_right e);rw [qtr h hi e];have:=h.lt hi hj hl;omega
def gat (q:Q4):Nat→TM
 | 0=>q.g
 | 1=>q.s
 | 2=>q.p
 | _=>q.o
def LtQ (q r:Q4):Prop:=∃ k,k<4∧(∀ j,j<k→gat q j=gat r j)∧LtT (gat q k) (gat r k)
def noQ (T:List TM) (qs:List Q4) (i k:Nat):Nat:=match qs[i]? with
 | some q=>noT T (gat q k)
 | none=>0
theorem qk8 {T:List TM} {qs:List Q4} {i k:Nat} {q:Q4} (h:qs[i]?=some q):noQ T qs i k=noT T (gat q k):=by rw [noQ,h]
structure SetOk (T:List TM) (qs:List Q4):Prop where
 rise:RiseT T
 few:T.length≤4194304
 kind:∀ t∈T,0<t.kind
 mem:∀ q∈qs,∀ k,k<4→gat q k∈T∨(k=0∧(gat q k).kind=0∧gat q k=zTM)
 len:qs.length≤1048576
 ord:qs.Pairwise LtQ
theorem SetOk.tok {T:List TM} {qs:List Q4} (h:SetOk T qs):TOk (noQ T qs) qs.length:=by
 refine ⟨h.len,fun i k hi hk=>?_,fun i h0 hi=>?_⟩
 ·have hq:qs[i]?=some qs[i]:=zge hi;rw [qk8 hq]
  rcases h.mem _ (List.getElem_mem hi) k hk with g|⟨g1,g2,_⟩
  ·refine ⟨fun _=>?_,Nat.le_trans (q8d _ _ (.inl g)) h.few⟩;have:=h.kind _ g;rw [noT,if_neg Oo];omega
  ·exact ⟨fun g=>absurd g1 g,by rw [qis g2];omega⟩
 ·have hq:qs[i]?=some qs[i]:=zge hi;have hp:qs[i-1]?=some qs[i-1]:=zge Oo;obtain ⟨k,h1,h2,h3⟩:=(List.pairwise_iff_getElem.1 h.ord) (i-1) i Oo hi Oo;refine ⟨k,h1,fun j hj=>?_,?_⟩
  ·rw [qk8 hq,qk8 hp,h2 j hj]
  ·rw [qk8 hq,qk8 hp];have hb:gat qs[i] k∈T:=by
    rcases h.mem _ (List.getElem_mem hi) k h1 with g|⟨g1,g2,g3⟩
    ·exact g
    ·exfalso
     rcases h.mem _ (List.getElem_mem (show i-1<qs.length by omega)) k h1 with f|⟨f1,f2,f3⟩
     ·have:=h.kind _ f
      rcases h3 with h3|⟨h3,_⟩<;>omega
     ·rw [g3,f3] at h3;exact LtT.irrefl _ h3
   refine q8e h.rise (fun t ht=>by have:=h.kind t ht;omega) ?_ hb (by have:=h.kind _ hb;omega) h3
   rcases h.mem _ (List.getElem_mem (show i-1<qs.length by omega)) k h1 with f|⟨f1,f2,f3⟩
   ·exact .inl f
   ·exact .inr f2
def ofK (T:List TM) (k:Nat):List TM:=T.filter fun t=>decide (t.kind=((k+1:Nat):Int))
theorem qgp (T:List TM) (k:Nat):secE T k=(ofK T k).map qbv:=rfl
theorem qmy {T:List TM} {k:Nat} {t:TM} (h:t∈ofK T k):t.kind=((k+1:Nat):Int):=by simpa using (List.mem_filter.1 h).2
theorem qmz {T:List TM} (h:RiseT T) (k:Nat):RiseT (ofK T k):=h.filter _
theorem qze {T:List TM} (h:RiseT T) (hk:∀ t∈T,1≤t.kind∧t.kind≤3):T=ofK T 0++(ofK T 1++ofK T 2):=by
 have hc:∀ {i j:Nat},i<j→∀ a∈ofK T i,∀ b∈ofK T j,LtT a b:=fun hij a ha b hb=>.inl (by rw [qmy ha,qmy hb];omega)
 refine RiseT.ext h ?_ fun y=>⟨fun hy=>?_,fun hy=>?_⟩
 ·refine List.pairwise_append.2 ⟨qmz h 0,List.pairwise_append.2 ⟨qmz h 1,qmz h 2,fun a ha b hb=>hc Od a ha b hb⟩,fun a ha b hb=>?_⟩
  rcases List.mem_append.1 hb with hb|hb
  ·exact hc Od a ha b hb
  ·exact hc Od a ha b hb
 ·have:=hk y hy;have hd:y.kind=1∨y.kind=2∨y.kind=3:=by omega
  rcases hd with e|e|e
  ·exact List.mem_append_left _ (List.mem_filter.2 ⟨hy,by rw [e];rfl⟩)
  ·exact List.mem_append_right _ (List.mem_append_left _ (List.mem_filter.2 ⟨hy,by rw [e];rfl⟩))
  ·exact List.mem_append_right _ (List.mem_append_right _ (List.mem_filter.2 ⟨hy,by rw [e];rfl⟩))
 ·rcases List.mem_append.1 hy with hy|hy
  ·exact (List.mem_filter.1 hy).1
  ·rcases List.mem_append.1 hy with hy|hy
   ·exact (List.mem_filter.1 hy).1
   ·exact (List.mem_filter.1 hy).1
section
variable {T:List TM} (h:VOk T) (hr:RiseT T) (hk:∀ t∈T,1≤t.kind∧t.kind≤3) (ht:∀ t∈T,qas t=0)
include h
theorem VOk.tot1:vTot (vocB T) 1=(ofK T 0).length:=by rw [vTot,vTot,h.dN Od,qgp,List.length_map,Nat.zero_add]
theorem VOk.tot2:vTot (vocB T) 2=(ofK T 0).length+(ofK T 1).length:=by rw [vTot,h.tot1,h.dN Od,qgp,List.length_map]
theorem VOk.tot3:vTot (vocB T) 3=(ofK T 0).length+(ofK T 1).length+(ofK T 2).length:=by rw [vTot,h.tot2,h.dN Od,qgp,List.length_map]
include hr hk
theorem VOk.tot:vTot (vocB T) 3=T.length:=by
 have e:=congrArg List.length (qze hr hk);simp only [zla] at e;rw [h.tot3];omega
include ht
end
def encP (T:List TM) (qs:List Q4):LB:=qm3 qs.length T.length (vocB T) (qgy (noQ T qs) qs.length)
structure EncOk (T:List TM) (qs:List Q4):Prop where
 set:SetOk T qs
 voc:VOk T
 kind3:∀ t∈T,t.kind≤3
 term:∀ t∈T,qas t=0
 quad:∀ q∈qs,qa9 q=0
 used:∀ t∈T,∃ q∈qs,∃ k,k<4∧gat q k=t
 size:(vocB T).length+(qgy (noQ T qs) qs.length).length+36≤67108864
section
variable {T:List TM} {qs:List Q4} (h:EncOk T qs)
include h
end
open Classical in
noncomputable def dicE (L:List LB):Nat:=
 if 4194304<L.length∨∃ i,262144<(tx L i).length then 2 else if ∃ i,i+1<L.length∧leL (tx L (i+1)) (tx L i)=true then 160 else if 67108864<(qr L).length then 1 else 0
theorem LtQ.trans {a b c:Q4} (h:LtQ a b) (g:LtQ b c):LtQ a c:=by
 obtain ⟨k,h1,h2,h3⟩:=h;obtain ⟨m,g1,g2,g3⟩:=g
 rcases Nat.lt_trichotomy k m with e|e|e
 ·exact ⟨k,h1,fun j hj=>(h2 j hj).trans (g2 j Oo),by rw [← g2 k e];exact h3⟩
 ·subst e;exact ⟨k,h1,fun j hj=>(h2 j hj).trans (g2 j hj),h3.trans g3⟩
 ·exact ⟨m,g1,fun j hj=>(h2 j Oo).trans (g2 j hj),by rw [h2 m e];exact g3⟩
theorem qzu {α:Type} {R:α→α→Prop} (ht:∀ a b c,R a b→R b c→R a c) {l:List α} (h:∀ i a b,l[i]?=some a→l[i+1]?=some b→R a b):l.Pairwise R:=by
 refine List.pairwise_iff_getElem.2 fun i j hi hj hij=>?_;obtain ⟨d,rfl⟩:∃ d,j=i+1+d:=⟨j-(i+1),by omega⟩
 clear hij
 induction d with
 | zero=>exact h i _ _ (zge hi) (zge hj)
 | succ d ih=>exact ht _ _ _ (ih Oo) (h (i+1+d) _ _ (zge Oo) (zge hj))
section
variable {l:LB} (h:(poE l).2=0)
include h
end
def cmpQ (a b:Q4):Int:=if cmpT a.g b.g≠0 then cmpT a.g b.g else if cmpT a.s b.s≠0 then cmpT a.s b.s else if cmpT a.p b.p≠0 then cmpT a.p b.p else cmpT a.o b.o
theorem ql7 {a b:Q4}:cmpQ a b<0↔LtQ a b:=by
 unfold cmpQ
 constructor
 ·intro h
  by_cases h0:cmpT a.g b.g≠0
  ·rw [if_pos h0] at h;exact ⟨0,by decide,fun j hj=>absurd hj (Nat.not_lt_zero _),qbi.1 h⟩
  rw [if_neg h0] at h;have e0:=qbh.1 (Classical.not_not.1 h0)
  by_cases h1:cmpT a.s b.s≠0
  ·rw [if_pos h1] at h;exact ⟨1,by decide,fun j hj=>by obtain rfl:j=0:=(by omega);exact e0,qbi.1 h⟩
  rw [if_neg h1] at h;have e1:=qbh.1 (Classical.not_not.1 h1)
  by_cases h2:cmpT a.p b.p≠0
  ·rw [if_pos h2] at h;refine ⟨2,by decide,fun j hj=>?_,qbi.1 h⟩
   rcases (show j=0∨j=1 by omega) with rfl|rfl
   ·exact e0
   ·exact e1
  rw [if_neg h2] at h;have e2:=qbh.1 (Classical.not_not.1 h2);refine ⟨3,by decide,fun j hj=>?_,qbi.1 h⟩
  rcases (show j=0∨j=1∨j=2 by omega) with rfl|rfl|rfl
  ·exact e0
  ·exact e1
  ·exact e2
 ·rintro ⟨k,hk,h1,h2⟩
  match k,hk with
  | 0,_=>
   have:=qbi.2 h2;have g:cmpT a.g b.g<0:=this;rw [if_pos Oo];exact g
  | 1,_=>
   have g:cmpT a.s b.s<0:=qbi.2 h2;rw [if_neg (fun x=>x (qbh.2 (h1 0 Od))),if_pos Oo];exact g
  | 2,_=>
   have g:cmpT a.p b.p<0:=qbi.2 h2;rw [if_neg (fun x=>x (qbh.2 (h1 0 Od))),if_neg (fun x=>x (qbh.2 (h1 1 Od))),if_pos Oo];exact g
  | 3,_=>
   have g:cmpT a.o b.o<0:=qbi.2 h2;rw [if_neg (fun x=>x (qbh.2 (h1 0 Od))),if_neg (fun x=>x (qbh.2 (h1 1 Od))),if_neg (fun x=>x (qbh.2 (h1 2 Od)))];exact g
def qwz (qs:List Q4) (n:Nat):Prop:=∀ i,i+1<n→∀ a b,qs[i]?=some a→qs[i+1]?=some b→LtQ a b
open Classical in
noncomputable def valE (qs:List Q4):Nat:=if 1048576<qs.length then 2 else if qc2 (qs.map qa9)≠0 then qc2 (qs.map qa9) else if qwz qs qs.length then 0 else 6
theorem qp5 {qs:List Q4} (h:1048576<qs.length):valE qs=2:=by rw [valE,if_pos h]
theorem qp6 {qs:List Q4} (h:¬ 1048576<qs.length) {i e:Nat} {q:Q4} (hq:qs[i]?=some q) (hj:∀ j r,j<i→qs[j]?=some r→qa9 r=0) (he:qa9 q=e) (h0:e≠0):valE qs=e:=by
 have hl:=(List.getElem?_eq_some_iff.1 hq).1;have e1:qc2 (qs.map qa9)=e:=by
  rw [qjb (k:=i) (by rw [List.length_map];exact hl) (fun j hj1 hj2=>by rw [List.getElem_map];exact hj j _ hj2 (zge Oo))
   (by rw [List.getElem_map,(List.getElem?_eq_some_iff.1 hq).2,he];exact h0),List.getElem_map,(List.getElem?_eq_some_iff.1 hq).2,he]
 rw [valE,if_neg h,e1,if_pos h0]
theorem qlg {qs:List Q4} (h:∀ q∈qs,qa9 q=0):qc2 (qs.map qa9)=0:=
 qdv fun j hj=>by rw [List.getElem_map];exact h _ (List.getElem_mem _)
theorem qun {qs:List Q4} (h:¬ 1048576<qs.length) (hq:∀ q∈qs,qa9 q=0) {i:Nat} {a b:Q4} (ha:qs[i]?=some a) (hb:qs[i+1]?=some b) (hn:¬ LtQ a b):valE qs=6:=by
 have hl:=(List.getElem?_eq_some_iff.1 hb).1;rw [valE,if_neg h,qlg hq,if_neg (fun g=>g rfl),if_neg (fun g=>hn (g i hl a b ha hb))]
theorem q03 {qs:List Q4} (h:¬ 1048576<qs.length) (hq:∀ q∈qs,qa9 q=0) (hr:qwz qs qs.length):valE qs=0:=by
 rw [valE,if_neg h,qlg hq,if_neg (fun g=>g rfl),if_pos hr]
theorem qhh:∀ {l:List Nat},qc2 l=0→∀ x∈l,x=0
 | [],_,x,hx=>by cases hx
 | y::l,h,x,hx=>by
  rw [qc2] at h
  by_cases e:y=0
  ·rw [if_neg (fun g=>g e)] at h
   rcases List.mem_cons.1 hx with rfl|hx
   ·exact e
   ·exact qhh h x hx
  ·rw [if_pos e] at h;exact absurd h e
theorem qdm {qs:List Q4} (h:valE qs=0):qs.length≤1048576∧(∀ q∈qs,qa9 q=0)∧qs.Pairwise LtQ:=by
 unfold valE at h
 by_cases h1:1048576<qs.length
 case pos=>rw [if_pos h1] at h;cases h
 rw [if_neg h1] at h
 by_cases h2:qc2 (qs.map qa9)≠0
 case pos=>rw [if_pos h2] at h;exact absurd h h2
 rw [if_neg h2] at h
 by_cases h3:qwz qs qs.length
 case neg=>rw [if_neg h3] at h;cases h
 refine ⟨by omega,fun q hq=>qhh (Classical.not_not.1 h2) _ (List.mem_map.2 ⟨q,hq,rfl⟩),qzu (R:=LtQ) (fun _ _ _ h g=>LtQ.trans h g) fun i a b ha hb=>h3 i (List.getElem?_eq_some_iff.1 hb).1 a b ha hb⟩
theorem qm8 {q:Q4} (h:qa9 q=0) {k:Nat} (hk:k<4):qE k (q.at k)=0:=qhh h _ (List.mem_map.2 ⟨k,List.mem_range.2 hk,rfl⟩)
theorem qm7 {k:Nat} {t:TM} (h:qE k t=0):canB k t=true∧((k=3∧t.kind=0)∨qas t=0):=by
 unfold qE at h
 by_cases h1:canB k t=false
 case pos=>rw [if_pos h1] at h;cases h
 rw [if_neg h1] at h;refine ⟨by simpa using h1,?_⟩
 by_cases h2:k=3∧t.kind=0
 ·exact .inl h2
 ·rw [if_neg h2] at h;exact .inr h
theorem qwm {t:TM} (h:qas t=0):1≤t.kind∧t.kind≤3:=by
 unfold qas at h
 by_cases h1:t.kind=1∨t.kind=2
 ·omega
 ·rw [if_neg h1] at h
  by_cases h2:t.kind=3
  ·omega
  ·rw [if_neg h2] at h;cases h
theorem q3w {t:TM} (h:qsd t=true):t=zTM:=qb0.1 h
theorem qt0 {q:Q4} (h:qa9 q=0) {k:Nat} (hk:k<4):(qas (gat q k)=0∧gat q k∈trQ q)∨(k=0∧(gat q k).kind=0∧gat q k=zTM):=by
 match k,hk with
 | 0,_=>
  obtain ⟨h1,h2⟩:=qm7 (qm8 h (k:=3) Od)
  by_cases h0:q.g.kind=0
  ·refine .inr ⟨rfl,h0,?_⟩;have h1:canB 3 q.g=true:=h1;rw [canB,if_neg Oo,if_neg Oo,if_neg Oo] at h1;simp only [Bool.or_eq_true,decide_eq_true_eq] at h1
   rcases h1 with (h1|h1)|h1
   ·exact q3w h1
   ·omega
   ·omega
  ·refine .inl ⟨h2.resolve_left fun g=>h0 g.2,?_⟩;rw [trQ,if_neg h0];exact List.mem_append_right _ (List.mem_singleton.2 rfl)
 | 1,_=>
  obtain ⟨_,h2⟩:=qm7 (qm8 h (k:=0) Od);exact .inl ⟨h2.resolve_left fun g=>absurd g.1 Od,List.mem_append_left _ mh⟩
 | 2,_=>
  obtain ⟨_,h2⟩:=qm7 (qm8 h (k:=1) Od);exact .inl ⟨h2.resolve_left fun g=>absurd g.1 Od,List.mem_append_left _ (zmc mh)⟩
 | 3,_=>
  obtain ⟨_,h2⟩:=qm7 (qm8 h (k:=2) Od);exact .inl ⟨h2.resolve_left fun g=>absurd g.1 Od,List.mem_append_left _ (zmc (zmc mh))⟩
theorem q63 {q:Q4} {t:TM} (h:t∈trQ q):∃ k,k<4∧gat q k=t∧(k=0→(gat q k).kind≠0):=by
 rw [trQ] at h
 rcases List.mem_append.1 h with h|h
 ·simp only [List.mem_cons,List.not_mem_nil,or_false] at h
  rcases h with rfl|rfl|rfl
  ·exact ⟨1,by decide,rfl,fun g=>by cases g⟩
  ·exact ⟨2,by decide,rfl,fun g=>by cases g⟩
  ·exact ⟨3,by decide,rfl,fun g=>by cases g⟩
 ·by_cases h0:q.g.kind=0
  ·rw [if_pos h0] at h;cases h
  ·rw [if_neg h0] at h;rw [List.mem_singleton.1 h];exact ⟨0,by decide,rfl,fun _=>h0⟩
def tmsQ (qs:List Q4):List TM:=tmsN (trms qs).length (trms qs)
theorem qgx (qs:List Q4):RiseT (tmsQ qs):=(qgw _ (trms qs) znr).1
theorem qtm {qs:List Q4} {t:TM}:t∈trms qs↔∃ q∈qs,t∈trQ q:=by
 simp only [trms,List.mem_flatten,List.mem_map]
 constructor
 ·rintro ⟨_,⟨q,hq,rfl⟩,ht⟩;exact ⟨q,hq,ht⟩
 ·rintro ⟨q,hq,ht⟩;exact ⟨_,⟨q,hq,rfl⟩,ht⟩
theorem qgf {qs:List Q4} {t:TM}:t∈tmsQ qs↔∃ q∈qs,t∈trQ q:=by
 rw [← qtm];exact (qgw _ (trms qs) znr).2 t
section
variable {qs:List Q4} (h:valE qs=0)
include h
theorem qe0 {t:TM} (ht:t∈tmsQ qs):qas t=0∧1≤t.kind∧t.kind≤3:=by
 obtain ⟨q,hq,hm⟩:=qgf.1 ht;obtain ⟨k,hk,rfl,h0⟩:=q63 hm
 rcases qt0 ((qdm h).2.1 q hq) hk with g|⟨g1,g2,_⟩
 ·exact ⟨g.1,qwm g.1⟩
 ·exact absurd g2 (h0 g1)
theorem qui (hn:(tmsQ qs).length≤4194304):SetOk (tmsQ qs) qs:=by
 obtain ⟨h1,h2,h3⟩:=qdm h;refine ⟨qgx qs,hn,fun t ht=>by have:=qe0 h ht;omega,fun q hq k hk=>?_,h1,h3⟩
 rcases qt0 (h2 q hq) hk with g|g
 ·exact .inl (qgf.2 ⟨q,hq,g.2⟩)
 ·exact .inr g
end
theorem qxq {L:List LB} (h:4194304<L.length):dicE L=2:=by rw [dicE,if_pos (.inl h)]
theorem qxs {L:List LB} {i:Nat} (h:262144<(tx L i).length):dicE L=2:=by rw [dicE,if_pos (.inr ⟨i,h⟩)]
theorem qxr {L:List LB} (h:¬ 4194304<L.length) (h2:∀ i,¬ 262144<(tx L i).length) {i:Nat} (hi:i+1<L.length) (hl:leL (tx L (i+1)) (tx L i)=true):dicE L=160:=by
 rw [dicE,if_neg (fun g=>g.elim h fun ⟨i,g⟩=>h2 i g),if_pos ⟨i,hi,hl⟩]
theorem qi9 {L:List LB} (h:dicE L=0):DOk L:=by
 unfold dicE at h
 by_cases h1:4194304<L.length∨∃ i,262144<(tx L i).length
 case pos=>rw [if_pos h1] at h;cases h
 rw [if_neg h1] at h
 by_cases h2:∃ i,i+1<L.length∧leL (tx L (i+1)) (tx L i)=true
 case pos=>rw [if_pos h2] at h;cases h
 rw [if_neg h2] at h
 by_cases h3:67108864<(qr L).length
 case pos=>rw [if_pos h3] at h;cases h
 refine ⟨Nat.not_lt.1 fun g=>h1 (.inl g),fun i=>Nat.not_lt.1 fun g=>h1 (.inr ⟨i,g⟩),fun i hi=>?_,by omega⟩;cases e:leL (tx L (i+1)) (tx L i) with
 | false=>rfl
 | true=>exact absurd ⟨i,hi,e⟩ h2
noncomputable def qcy (T:List TM):Nat:=if dicE (secE T 0)≠0 then dicE (secE T 0) else if dicE (secE T 1)≠0 then dicE (secE T 1) else dicE (secE T 2)
theorem qux {T:List TM} {k:Nat} (hk:k<3) (h:∀ j,j<k→dicE (secE T j)=0) (h0:dicE (secE T k)≠0):qcy T=dicE (secE T k):=by
 match k,hk with
 | 0,_=>rw [qcy,if_pos h0]
 | 1,_=>rw [qcy,if_neg (fun g=>g (h 0 Od)),if_pos h0]
 | 2,_=>rw [qcy,if_neg (fun g=>g (h 0 Od)),if_neg (fun g=>g (h 1 Od))]
theorem quy {T:List TM} (h:∀ k,k<3→dicE (secE T k)=0):qcy T=0:=by
 rw [qcy,if_neg (fun g=>g (h 0 Od)),if_neg (fun g=>g (h 1 Od))];exact h 2 Od
theorem qlo {T:List TM} (h:qcy T=0):∀ k,k<3→dicE (secE T k)=0:=by
 unfold qcy at h
 by_cases h0:dicE (secE T 0)≠0
 case pos=>rw [if_pos h0] at h;exact absurd h h0
 rw [if_neg h0] at h
 by_cases h1:dicE (secE T 1)≠0
 case pos=>rw [if_pos h1] at h;exact absurd h h1
 rw [if_neg h1] at h;intro k hk
 match k,hk with
 | 0,_=>exact Classical.not_not.1 h0
 | 1,_=>exact Classical.not_not.1 h1
 | 2,_=>exact h
def pkB (qs:List Q4):LB:=encP (tmsQ qs) qs
theorem qq1 (qs:List Q4):(pkB qs).length=(vocB (tmsQ qs)).length+(qgy (noQ (tmsQ qs) qs) qs.length).length+36:=q2y _ _ _ _
noncomputable def encE (qs:List Q4) (most:Int):Nat:=
 if valE qs≠0 then valE qs else if qcy (tmsQ qs)≠0 then qcy (tmsQ qs) else if most<((pkB qs).length:Int)∨67108864<(pkB qs).length then 1 else 0
section
variable {qs:List Q4} {most:Int}
theorem qs4 (h:valE qs≠0):encE qs most=valE qs:=by rw [encE,if_pos h]
theorem qs5 (h:valE qs=0) (h2:qcy (tmsQ qs)≠0):encE qs most=qcy (tmsQ qs):=by rw [encE,if_neg (fun g=>g h),if_pos h2]
theorem qip (h:valE qs=0) (h2:qcy (tmsQ qs)=0) (h3:most<((pkB qs).length:Int)∨67108864<(pkB qs).length):encE qs most=1:=by rw [encE,if_neg (fun g=>g h),if_neg (fun g=>g h2),if_pos h3]
theorem qx0 (h:valE qs=0) (h2:qcy (tmsQ qs)=0) (h3:¬ (most<((pkB qs).length:Int)∨67108864<(pkB qs).length)):encE qs most=0:=by rw [encE,if_neg (fun g=>g h),if_neg (fun g=>g h2),if_neg h3]
theorem qx1 (h:encE qs most=0):valE qs=0∧qcy (tmsQ qs)=0∧((pkB qs).length:Int)≤most∧(pkB qs).length≤67108864:=by
 unfold encE at h
 by_cases h0:valE qs≠0
 case pos=>rw [if_pos h0] at h;exact absurd h h0
 rw [if_neg h0] at h
 by_cases h1:qcy (tmsQ qs)≠0
 case pos=>rw [if_pos h1] at h;exact absurd h h1
 rw [if_neg h1] at h
 by_cases h2:most<((pkB qs).length:Int)∨67108864<(pkB qs).length
 case pos=>rw [if_pos h2] at h;cases h
 exact ⟨Classical.not_not.1 h0,Classical.not_not.1 h1,by omega,by omega⟩
theorem q74 (a b c:LB):a.length+b.length+c.length≤(jo3 a b c).length:=by
 rw [jo3];simp only [zla];omega
end
theorem qrq (g:FuncId) (c1 c2:Value) (n:Nat) (p:Nat→Bool) (w:World) (hn:n≤4194304) (hp:∀ i j,i≤j→p i=true→p j=true)
  (hg:∀ i w',i<n→Ext w w'→Gv Tryz.prog g [ii i,c1,c2] w' fun r w''=>r=.bool (p i)∧Ext w' w'') :
  Gv Tryz.prog 257 [ii n,.func (.func g) #[] #[c1,c2]] w fun r w'=>∃ k:Nat,r=ii k∧k≤n∧(∀ i,i<k→p i=false)∧(∀ i,k≤i→i<n→p i=true)∧Ext w w':=by
 refine ze Tryz.func257 Tryz.ntmps257 ?_;refine qe (fun s:Nat × Nat=>[(1,.func (.func g) #[] #[c1,c2]),(5,ii s.1),(6,ii s.2)])
  (fun s w'=>s.1≤s.2∧s.2≤n∧(∀ i,i<s.1→p i=false)∧(∀ i,s.2≤i→i<n→p i=true)∧Ext w w') (fun s=>s.2-s.1) (0,n) ⟨rfl,rfl,rfl,trivial⟩ ⟨Nat.zero_le _,Nat.le_refl _,fun i h=>by omega,fun i h1 h2=>by omega,xr⟩ ?_
 rintro ⟨a,b⟩ w1 ρ' ⟨h1,h2,h3,h4,he⟩;dsimp only at h1 h2 h3 h4 ⊢;(conv=>whnf);refine zC (fun _=>zu ?_) (fun _=>zu ?_)
 ·obtain ⟨h,eh⟩:∃ h,h=(a+b)/2:=⟨_,rfl⟩
  rw [← Int.natCast_add];refine V.Wit.shrN 1 rfl Od ?_;rw [Nat.pow_one,← eh];refine zu ?_;refine zcv (hg h w1 Oo he) ?_;rintro r w2 ⟨rfl,he2⟩;have he:=he.trans he2;cases hph:p h
  ·refine zu ?_;refine ⟨(h+1,b),⟨rfl,rfl,rfl,trivial⟩,⟨by show h+1≤b;omega,h2,fun i hi=>?_,h4,he⟩,by show b-(h+1)<b-a;omega⟩
   by_cases hip:p i=true
   ·have:=hp i h (by show i≤h;have hi:i<h+1:=hi;omega) hip;rw [hph] at this;cases this
   ·simpa using hip
  ·refine zu ?_;refine ⟨(a,h),⟨rfl,rfl,rfl,trivial⟩,⟨by show a≤h;omega,by show h≤n;omega,h3,fun i hi _=>hp h i hi hph,he⟩,by show h-a<b-a;omega⟩
 ·obtain rfl:a=b:=by omega
  exact ⟨a,rfl,h2,h3,h4,he⟩
def ltx (L:List LB) (i:Nat) (s:ByteArray):Bool:=slt ⟨(tx L i).toArray⟩ s
theorem DOk.up {L:List LB} (h:DOk L) {i j:Nat} (hij:i<j) (hj:j<L.length):slt ⟨(tx L i).toArray⟩ ⟨(tx L j).toArray⟩=true:=by
 induction j with
 | zero=>omega
 | succ j ih=>
  have h1:slt ⟨(tx L j).toArray⟩ ⟨(tx L (j+1)).toArray⟩=true:=by
   have h2:=h.rise j hj;simp only [leL,Bool.or_eq_false_iff] at h2
   rcases qnm ⟨(tx L j).toArray⟩ ⟨(tx L (j+1)).toArray⟩ with g|g|g
   ·exact g
   ·rw [g] at h2;have:=h2.2;simp [seq] at this
   ·rw [g] at h2;exact absurd h2.1 Od
  by_cases e:i=j
  ·subst e;exact h1
  ·exact qey (ih Oo Oo) h1
theorem DOk.ltx_up {L:List LB} (h:DOk L) {i j:Nat} {s:ByteArray} (hij:i≤j) (hj:j<L.length) (hs:ltx L j s=true):ltx L i s=true:=by
 by_cases e:i=j
 ·subst e;exact hs
 ·exact qey (h.up Oo hj) hs
theorem qoi (b:Nat) (t s:ByteArray) (w:World) (hb:w.cell? ⟨b,0,none⟩=some (.string s)) :
  Gv Tryz.prog 220 [.string t,pp b] w fun r w'=>r=.bool (slt t s)∧Ext w w':=by
 refine ze Tryz.func220 Tryz.ntmps220 ?_;refine LoadV.of hb (zw ?_);exact ⟨rfl,xr⟩
theorem qu3 (L:List LB) (hL:DOk L) (b b2 b3 sb i:Nat) (s:ByteArray) (w:World) (hD:DictAt w b (qh L)) (hi:i<upN L.length 16)
  (h2:w.cell? ⟨b2,0,none⟩=some (pp b)) (h3:w.cell? ⟨b3,0,none⟩=some (.func (.func 220) #[] #[pp sb])) (hs:w.cell? ⟨sb,0,none⟩=some (.string s)) :
  Gv Tryz.prog 275 [ii i,pp b2,pp b3] w fun r w'=>r=.bool (!ltx L (16*i) s)∧Ext w w':=by
 have hi16:16*i<L.length:=by unfold upN at hi;omega
 have hn:=hL.n;have hpl:=qob hD i;have hx:qcb (qd (qh L)) (qz (qh L) i) true []=blk (qd (qh L)) (qz (qh L) i) 0:=rfl;have hg:=qqh (m:=qh L) (by rw [hL.eoE]) (i:=16*i) (by rw [hL.eN];exact hi16);rw [hL.eGet hi16,dTxt,show 16*i/16=i by omega,show 16*i%16=0 by omega] at hg;obtain ⟨q1,q2⟩:=hg;have q2:=Option.some.inj q2;obtain ⟨x,ex⟩:∃ x,x=blk (qd (qh L)) (qz (qh L) i) 0:=⟨_,rfl⟩
 rw [← ex] at q1 q2 hx;obtain ⟨P,cp,E',ce,hd1,_,_,_⟩:=id hD.1;refine ze Tryz.func275 Tryz.ntmps275 ?_;refine DrawV.free Ok Ok (zw ?_);apply zsd
 ·intro wd hd;(conv=>whnf);refine LoadV.of (((Ext.refl w).drew.trans hd).cell h2) (zw ?_);exact ⟨xr,rfl⟩
 (conv=>whnf);apply zsd
 ·intro wd hd;(conv=>whnf);refine LoadV.of (((Ext.refl w).drew.trans hd).cell h2) (zw ?_);exact ⟨xr,rfl⟩
 (conv=>whnf);refine zd ?_;apply zsd
 ·intro wd hd;(conv=>whnf);refine zcv (qo5 b (qh L) i wd (hD.ext ((Ext.refl w).drew.trans hd)) (by rw [hL.eN];exact hi)) ?_;rintro v w' ⟨rfl,rfl⟩;exact ⟨xr,rfl⟩
 (conv=>whnf);apply zsd
 ·intro wd hd;(conv=>whnf);refine zcv (qof b (qh L) (qz (qh L) i) true ⟨#[]⟩ wd (hD.ext ((Ext.refl w).drew.trans hd)) Oo Od) ?_;rintro v w' ⟨rfl,he⟩;exact ⟨he,rfl⟩
 (conv=>whnf);have hx':qcb (qd (qh L)) (qz (qh L) i) true (⟨#[]⟩:ByteArray).data.toList=x:=hx;rw [hx'];clear hx hx' ex;obtain ⟨x1,x2,x3⟩:=x;dsimp only at q1 q2;subst q1 q2;(iterate 7 (refine zd ?_));intro w2 he2;have he2:=(Ext.refl w).drew.trans he2;(conv=>whnf);refine zC (fun _=>zu ?_) (fun _=>zu ?_)
 ·rename_i hx
  exact absurd rfl hx
 refine LoadV.of (he2.cell h3) (zu ?_);refine zcv (qoi sb ⟨(tx L (16*i)).toArray⟩ s w2 (he2.cell hs)) ?_;rintro r w3 ⟨rfl,he3⟩;refine zu ?_;exact ⟨rfl,he2.trans he3⟩
structure AhN (L:List LB) (s:ByteArray) (N:Nat):Prop where
 le:N≤L.length
 lt:∀ i,i<N→ltx L i s=true
 ge:N<L.length→ltx L N s=false
theorem DOk.txt {L:List LB} (h:DOk L) {i:Nat} (hi:i<L.length):dTxt (qh L) i=tx L i:=by
 have hg:=(qqh (m:=qh L) (by rw [h.eoE]) (i:=i) (by rw [h.eN];exact hi)).2;rw [h.eGet hi] at hg;exact (Option.some.inj hg).symm
theorem qxc (b k:Nat) (w:World):Gv Tryz.prog 278 [pp b,ii k] w fun r w'=>
  ∃ b1 b2,r=.func (.func 319) #[] #[pp b1,pp b2]∧Mem w w' [(b2,.cells #[ii k] 3),(b1,.cells #[pp b] 199)]:=by
 refine ze Tryz.func278 Tryz.ntmps278 ?_;refine znm (Mem.nil w) fun b1 w1 hm=>zw ?_;refine znm hm fun b2 w2 hm=>zw ?_;exact ⟨b1,b2,rfl,hm⟩
theorem qw1 (L:List LB) (hL:DOk L) (b sb:Nat) (s:ByteArray) (w:World) (hD:DictAt w b (qh L)) (hs:w.cell? ⟨sb,0,none⟩=some (.string s)) :
  Gv Tryz.prog 219 [pp b,.func (.func 220) #[] #[pp sb]] w fun r w'=>(∃ N:Nat,r=ii N∧AhN L s N)∧Ext w w':=by
 have hn:=hL.n;have hub:upN L.length 16≤4194304:=Nat.le_trans (qa0 _ _ Od) hn;refine gvW Ok Tryz.func219 rfl Tryz.ntmps219 rfl (zw ?_);refine znm (Mem.nil w) fun b2 w1 hm=>zw ?_;refine znm hm fun b3 w2 hm=>zw ?_;obtain ⟨fv,efv⟩:∃ fv:Value,fv=.func (.func 220) #[] #[pp sb]:=⟨_,rfl⟩
 refine zr hm 1 ?_;obtain ⟨P,cp,E,ce,hd1,_,_,_⟩:=(hD.ext hm.ext).1;refine LoadV.own hd1 rfl ?_;rw [hL.eN];(conv=>whnf);refine zcv (qkw L.length w2 hn) ?_;rintro v w' ⟨rfl,rfl⟩;(conv=>whnf);have hss:=qrq 275 (pp b2) (pp b3) (upN L.length 16) (fun i => !(decide (16*i<L.length)&&ltx L (16*i) s)) w' hub (fun i j hij h=>by
  simp only [Bool.not_eq_true',Bool.and_eq_false_iff,decide_eq_false_iff_not] at h ⊢
  by_cases hj:16*j<L.length
  ·right
   have h1:=h.resolve_left (fun g=>g Oo);cases hx:ltx L (16*j) s
   ·rfl
   ·rw [hL.ltx_up Oo hj hx] at h1;cases h1
  ·exact .inl hj) (fun i w2 hi he=>(qu3 L hL b b2 b3 sb i s w2 (hD.ext (hm.ext.trans he)) hi (by rw [qa (he.get (hm.get (zmc mh)))];rfl) (by rw [qa (he.get (hm.get mh))];rfl) ((hm.ext.trans he).cell hs)).mono fun r w3 ⟨h1,h2⟩=>⟨by
    have hi16:16*i<L.length:=by unfold upN at hi;omega
    rw [h1,decide_eq_true hi16,Bool.true_and],h2⟩)
 refine zcv (hss) ?_;rintro v w3 ⟨k,rfl,hk1,hk2,hk3,he3⟩;have hm:=hm.call he3;clear hss;have hin:∀ i,i<upN L.length 16→16*i<L.length:=fun i h=>by unfold upN at h;omega
 have hk2:∀ i,i<k→ltx L (16*i) s=true:=fun i h=>by
  have h1:=hk2 i h;have h2:=hin i Oo
  simpa [h2] using h1
 have hk3:∀ i,k≤i→16*i<L.length→ltx L (16*i) s=false:=fun i h h2=>by
  have h1:=hk3 i h (by unfold upN;omega)
  simpa [h2] using h1
 clear hd1;(conv=>whnf);refine zC (fun _=>zu ?_) (fun _=>zu ?_)
 ·obtain rfl:k=0:=by omega
  exact ⟨⟨0,rfl,Nat.zero_le _,fun i h=>by omega,fun h=>hk3 0 znr h⟩,hm.ext⟩
 obtain ⟨q,rfl⟩:∃ q,k=q+1:=⟨k-1,by omega⟩
 rw [show (((q+1:Nat):Int)-1)=(q:Int) by omega];refine znm hm fun b6 w4 hm=>zw ?_;refine StoreV.mem hm (i:=0) rfl Js rfl fun w5 hm=>zw ?_;refine zr hm 2 ?_;refine zv ?_;rw [show (((q+1:Nat):Int)-1)=(q:Int) by omega];refine zcv (qxc b q w5) ?_;rintro v w6 ⟨b1,b7,rfl,hm7⟩;have hm:=hm.glue hm7;have hdn:dN (qh L)=L.length:=hL.eN;obtain ⟨n,en⟩:∃ n,n=min 16 (L.length-16*q):=⟨_,rfl⟩
 have hbe:BEnd (qh L) q n:=by
  have:=BEnd.full (m:=qh L) (by rw [hL.eoE]) q;rw [hdn,← en] at this;exact this
 have hq16:=hin q Oo;obtain ⟨R,eR⟩:∃ R:Nat→List (Nat × Obj),R=fun k=>[(b7,.cells #[ii q] 3),(b1,.cells #[pp b] 199),(b6,.cells #[ii (16*q+k:Nat)] 3),(b3,.cells #[fv] 321),(b2,.cells #[pp b] 199)]:=⟨_,rfl⟩
 have hm:Mem w w6 (R 0):=by
  rw [eR,efv];dsimp only;rw [show ((16*q+0:Nat):Int)=(q:Int)*16 by omega];exact hm
 have hin1:∀ k,(b1,Obj.cells #[pp b] 199)∈R k:=fun k=>by rw [eR];exact zmg (i:=1) rfl
 have hin7:∀ k,(b7,Obj.cells #[ii q] 3)∈R k:=fun k=>by rw [eR];exact zmg (i:=0) rfl
 have hlen:((List.range n).map (bRow (qh L) q)).length=n:=by simp
 (conv=>whnf);refine q4g (Φ:=BlkΦ b (qh L) q b1 b7) (lb:=[pp b1,pp b7]) (xs:=(List.range n).map (bRow (qh L) q)) rfl Ok (qn3 b (qh L) q n b1 b7 (by rw [hdn];omega) hbe).toC Od ?_
  (fun k X w'=>∃ _:Unit,(k≤n∧∀ j,j<k→ltx L (16*q+j) s=true)∧Mem w w' (X++R k))
  (fun c k X w'=>∃ _:Unit,(c=.exit 0∧k<n∧(∀ j,j<k→ltx L (16*q+j) s=true)∧ltx L (16*q+k) s=false)∧Mem w w' (X++R k))
  (fun k=>Carr.mem _ _) (fun c k=>Carr.mem _ _) (fun k X w' ⟨_,_,hm'⟩=>⟨hD.ext hm'.ext,by rw [qa (hm'.get (List.mem_append_right _ (hin1 _)))];rfl,by rw [qa (hm'.get (List.mem_append_right _ (hin7 _)))];rfl⟩) ⟨(),⟨Nat.zero_le _,fun j h=>by omega⟩,by simpa using hm⟩ ?_ ?_ ?_
 ·intro x hx;obtain ⟨j,_,rfl⟩:=List.mem_map.1 hx;rfl
 ·clear hm hm7;rintro l D ob k x X w7 w8 hx ⟨_,⟨hk,hj⟩,hm⟩;have hkn:k<n:=by
   have:=(List.getElem?_eq_some_iff.1 hx).1
   rwa [hlen] at this
  rw [List.getElem?_map,List.getElem?_range hkn,Option.map_some,Option.some.injEq,q1j _ _ _ Oo,hL.txt Oo] at hx;subst hx;obtain ⟨X',eX'⟩:∃ X',X'=(l,ob)::(D,.deferred (some []))::X:=⟨_,rfl⟩
  rw [← eX'] at hm ⊢;have hm:Mem w w8 (R k++X'):=hm.perm List.perm_append_comm;rw [eR] at hm ⊢;dsimp only at hm ⊢;rw [efv] at hm ⊢;(conv=>whnf);refine ⟨rfl,rfl,?_⟩;(conv=>whnf);refine zr hm 3 ?_;refine zcv (qoi sb ⟨(tx L (16*q+k)).toArray⟩ s w8 (hm.ext.cell hs)) ?_;rintro r w9 ⟨rfl,he9⟩;have hm:=hm.call he9;cases hlt:slt ⟨(tx L (16*q+k)).toArray⟩ s
  ·refine zu ?_;exact ⟨(),⟨rfl,hkn,hj,hlt⟩,hm.perm List.perm_append_comm⟩
  ·refine zu ?_;refine StoreV.mem hm (i:=2) rfl Js rfl fun w10 hm=>zw ?_;refine ⟨(),⟨hkn,fun j' hj'=>?_⟩,?_⟩
   ·by_cases e:j'=k
    ·subst e;exact hlt
    ·exact hj j' Oo
   ·rw [show ((16*q+(k+1):Nat):Int)=((16*q+k:Nat):Int)+1 by omega];exact hm.perm List.perm_append_comm
 ·clear hm hm7;rintro D w8 ⟨_,⟨hk,hj⟩,hm⟩;rw [hlen] at hk hj hm;have hm:=hm.perm (List.Perm.cons _ (show (([]:List (Nat × Obj))++R n).Perm (R n) from List.Perm.refl _));rw [eR] at hm;(conv=>whnf);refine zr hm 3 ?_;refine LeaveV.mark (hm.get mh) fun w9 hw=>?_;have hm:=hm.setO (i:=0) _ rfl hw;(conv=>whnf);refine ⟨⟨16*q+n,rfl,by omega,fun i hi=>?_,fun hl=>?_⟩,hm.ext⟩
  ·by_cases g:i<16*q
   ·exact hL.ltx_up (j:=16*q) Oo hq16 (hk2 q Oo)
   ·obtain ⟨j,rfl⟩:∃ j,i=16*q+j:=⟨i-16*q,by omega⟩
    exact hj j Oo
  ·have hN:16*q+n=16*(q+1):=by omega
   rw [hN] at hl ⊢;exact hk3 (q+1) znr hl
 ·clear hm hm7;rintro D c k w8 hkl ⟨_,⟨rfl,hk,hj,hx⟩,hm⟩;rw [eR] at hm;(conv=>whnf);refine zr hm 3 ?_;refine LeaveV.mark (hm.get mh) fun w9 hw=>?_;have hm:=hm.setO (i:=0) _ rfl hw;(conv=>whnf);refine ⟨⟨16*q+k,rfl,by omega,fun i hi=>?_,fun hl=>?_⟩,hm.ext⟩
  ·by_cases g:i<16*q
   ·exact hL.ltx_up (j:=16*q) Oo hq16 (hk2 q Oo)
   ·obtain ⟨j,rfl⟩:∃ j,i=16*q+j:=⟨i-16*q,by omega⟩
    exact hj j Oo
  ·exact hx
theorem q16 (L:List LB) (hL:DOk L) (b:Nat) (s:ByteArray) (w:World) (hD:DictAt w b (qh L)) :
  Gv Tryz.prog 160 [pp b,.string s] w fun r w'=>(∃ N:Nat,AhN L s N∧r=.tuple #[ii N,.bool (decide (N<L.length∧(⟨(tx L N).toArray⟩:ByteArray)=s))])∧Ext w w':=by
 have hn:=hL.n;refine ze Tryz.func160 Tryz.ntmps160 ?_;refine znm (Mem.nil w) fun sb w1 hm=>zw ?_;refine zcv (qw1 L hL b sb s w1 (hD.ext hm.ext) (by rw [qa (hm.get mh)];rfl)) ?_;rintro r w2 ⟨⟨N,rfl,hN⟩,he2⟩;have hm:=hm.call he2;have hle:=hN.le;(conv=>whnf);refine zcv (q10 b (qh L) N w2 (hD.ext hm.ext) Oo) ?_;rintro r w3 ⟨rfl,he3⟩;have hm:=hm.call he3
 by_cases hlt:N<L.length
 ·have hg:qi7 (qh L) N=.tuple #[.string ⟨(tx L N).toArray⟩,.bool true]:=by rw [qi7,hL.eGet hlt]
  rw [hg];(conv=>whnf);refine zy ?_;refine zv ?_;refine zr hm.drew 0 ?_;refine zv ?_;refine ⟨⟨N,hN,?_⟩,hm.drew.ext⟩;have e:seq ⟨(tx L N).toArray⟩ s=decide (N<L.length∧(⟨(tx L N).toArray⟩:ByteArray)=s):=by
   cases hq:seq ⟨(tx L N).toArray⟩ s
   ·exact (decide_eq_false fun g=>qpo.1 hq g.2).symm
   ·exact (decide_eq_true ⟨hlt,qao.1 hq⟩).symm
  rw [e]
 ·have hg:qi7 (qh L) N=.tuple #[.string ⟨#[]⟩,.bool false]:=by rw [qi7,dGet,if_neg (by rw [hL.eN];exact hlt)]
  rw [hg];(conv=>whnf);refine zy ?_;refine zv ?_;refine ⟨⟨N,hN,?_⟩,hm.drew.ext⟩;have e:decide (N<L.length∧(⟨(tx L N).toArray⟩:ByteArray)=s)=false:=decide_eq_false fun g=>hlt g.1
  rw [e]
theorem AhN.at {L:List LB} (h:DOk L) {s:ByteArray} {N j:Nat} (hN:AhN L s N) (hj:j<L.length) (he:(⟨(tx L j).toArray⟩:ByteArray)=s):N=j:=by
 rcases Nat.lt_trichotomy N j with g|g|g
 ·have h1:=hN.ge Oo;have h2:=h.up g hj;rw [he] at h2;rw [ltx,h2] at h1;cases h1
 ·exact g
 ·have h1:=hN.lt j g;rw [ltx,he,qdk] at h1;cases h1
section
variable {T:List TM} (h:VOk T) (hr:RiseT T) (hk:∀ t∈T,1≤t.kind∧t.kind≤3)
include h hr hk
theorem VOk.num {k j:Nat} {t:TM} (hk3:k<3) (hj:(ofK T k)[j]?=some t):noT T t=vTot (vocB T) k+1+j:=by
 have e:=qze hr hk;have t1:=h.tot1;have t2:=h.tot2;have t0:vTot (vocB T) 0=0:=rfl;have hl:=(List.getElem?_eq_some_iff.1 hj).1;have hki:=qmy (zmg hj);obtain ⟨A,eA⟩:∃ A,A=ofK T 0:=⟨_,rfl⟩
 obtain ⟨B,eB⟩:∃ B,B=ofK T 1:=⟨_,rfl⟩
 obtain ⟨C,eC⟩:∃ C,C=ofK T 2:=⟨_,rfl⟩
 have hG:∀ m:Nat,T[m]?=(A++(B++C))[m]?:=fun m=>by rw [eA,eB,eC,← e]
 have hT:T[vTot (vocB T) k+j]?=some t:=by
  rw [hG]
  rcases (show k=0∨k=1∨k=2 by omega) with rfl|rfl|rfl
  ·rw [← eA] at hj hl;rw [t0,Nat.zero_add,List.getElem?_append_left hl];exact hj
  ·rw [← eB] at hj hl;rw [← eA] at t1;rw [t1,List.getElem?_append_right Oo,show A.length+j-A.length=j by omega,List.getElem?_append_left hl];exact hj
  ·rw [← eC] at hj hl;rw [← eA,← eB] at t2;rw [t2,List.getElem?_append_right Oo,List.getElem?_append_right Oo,show A.length+B.length+j-A.length-B.length=j by omega];exact hj
 rw [qtr hr hT Oo];omega
theorem VOk.find {k N:Nat} {t:TM} (hk3:k<3) (ht:t∈T) (hkt:t.kind=((k+1:Nat):Int)) (hN:AhN (secE T k) ⟨(qbv t).toArray⟩ N):N<(secE T k).length∧(⟨(tx (secE T k) N).toArray⟩:ByteArray)=⟨(qbv t).toArray⟩∧noT T t=vTot (vocB T) k+1+N:=by
 have hm:t∈ofK T k:=List.mem_filter.2 ⟨ht,by simpa using hkt⟩;obtain ⟨j,hj⟩:=List.mem_iff_getElem?.1 hm;have hl:=(List.getElem?_eq_some_iff.1 hj).1;have hx:tx (secE T k) j=qbv t:=by rw [tx,List.getD_eq_getElem?_getD,qgp,List.getElem?_map,hj];rfl
 have hlen:(secE T k).length=(ofK T k).length:=by rw [qgp,List.length_map]
 obtain rfl:=hN.at (h.d k hk3) (j:=j) Oo (by rw [hx])
 exact ⟨by omega,by rw [hx],h.num hr hk hk3 hj⟩
end
structure OrdC {α:Type} (c:α→α→Int):Prop where
 eq:∀ {a b:α},c a b=0↔a=b
 sym:∀ {a b:α},c a b<0↔0<c b a
 trans:∀ {a b d:α},c a b<0→c b d<0→c a d<0
section
variable {α:Type} {c:α→α→Int} (O:OrdC c)
include O
end
open Go.RowKit
namespace V
structure Chn (F:List Nat) (w w':World):Prop where
 os:w'.os=w.os
 tape:w'.tape=w.tape
 output:w'.output=w.output
 size:w.heap.size≤w'.heap.size
 block:∀ k,k<w.heap.size→k∉F→w'.heap[k]?=w.heap[k]?
theorem Chn.refl (F:List Nat) (w:World):Chn F w w:=⟨rfl,rfl,rfl,Nat.le_refl _,fun _ _ _=>rfl⟩
theorem Chn.of {w w':World} (F:List Nat) (h:Ext w w'):Chn F w w':=⟨h.os,h.tape,h.output,h.size,fun k hk _=>h.block k hk⟩
theorem Chn.trans {F:List Nat} {a b c:World} (h:Chn F a b) (g:Chn F b c):Chn F a c:=
 ⟨g.os.trans h.os,g.tape.trans h.tape,g.output.trans h.output,Nat.le_trans h.size g.size,fun k hk hn=>(g.block k (Nat.lt_of_lt_of_le hk h.size) hn).trans (h.block k hk hn)⟩
theorem Chn.trans' {F G:List Nat} {a b c:World} (h:Chn F a b) (g:Chn G b c) (hG:∀ k∈G,k∈F∨a.heap.size≤k):Chn F a c:=
 ⟨g.os.trans h.os,g.tape.trans h.tape,g.output.trans h.output,Nat.le_trans h.size g.size,fun k hk hn=>
  (g.block k (Nat.lt_of_lt_of_le hk h.size) fun hm=>(hG k hm).elim hn fun h'=>by omega).trans (h.block k hk hn)⟩
theorem Chn.mono {F G:List Nat} {w w':World} (h:Chn F w w') (hs:∀ k∈F,k∈G):Chn G w w':=⟨h.os,h.tape,h.output,h.size,fun k hk hn=>h.block k hk fun hf=>hn (hs k hf)⟩
theorem Chn.ext {F:List Nat} {w0 w w':World} (h:Chn F w w') (he:Ext w0 w) (hF:∀ k∈F,w0.heap.size≤k):Ext w0 w':=
 Below.trans he ⟨h.os,h.tape,h.output,h.size,fun k hk=>h.block k (Nat.lt_of_lt_of_le hk he.size) fun hf=>by have:=hF k hf;omega⟩
theorem Chn.grown {w w':World} {r:Option Nat} (h:w.grownBy w' r):Chn r.toList w w':=
 ⟨h.os,h.tape,h.output,h.size,fun k hk hn=>h.block k hk fun e=>hn (by rw [← e];exact List.mem_singleton.2 rfl)⟩
theorem Chn.set {w w':World} {b off:Nat} {cs:Array Value} {t:TypeId} {fr:Nat × Nat} {v:Value} (h:w.heap[b]?=some (.cells cs t fr)) (hw:w'=w.setCell ⟨b,off,none⟩ v) :
  Chn [b] w w'∧w'.heap[b]?=some (.cells (cs.setIfInBounds off v) t fr):=by
 subst hw;exact ⟨⟨rfl,rfl,rfl,by simp [World.setCell],fun k _ hk=>Below.heap_setCell _ _ _ _ (fun e=>hk (by rw [e];exact List.mem_singleton.2 rfl))⟩,heap_setCell h⟩
theorem Chn.upd_ {w w':World} {b:Nat} {o:Obj} (h:Chn [b] w w') (ho:w'.heap[b]?=some o):Upd w w' b o:=⟨h.os,h.tape,h.output,h.size,fun k hk hn=>h.block k hk fun e=>hn (List.mem_singleton.1 e),ho⟩
structure Sep (w0 w:World) (Fs:List (List Nat)):Prop where
 ext:Ext w0 w
 lo:∀ F∈Fs,∀ k∈F,w0.heap.size≤k∧k<w.heap.size
 ap:Fs.Pairwise fun F G=>∀ k∈F,k∉G
section
variable {w0 w w':World} {Fs:List (List Nat)}
theorem Sep.nil (w:World):Sep w w []:=⟨Ext.refl w,(fun F h=>(by cases h)),List.Pairwise.nil⟩
theorem Sep.of {w0 w:World} (h:Ext w0 w):Sep w0 w []:=⟨h,(fun F h=>(by cases h)),List.Pairwise.nil⟩
theorem Sep.call (h:Sep w0 w Fs) (he:Ext w w'):Sep w0 w' Fs:=
 ⟨h.ext.trans he,fun F hF k hk=>⟨(h.lo F hF k hk).1,Nat.lt_of_lt_of_le (h.lo F hF k hk).2 he.size⟩,h.ap⟩
theorem Sep.add (h:Sep w0 w Fs) {F:List Nat} (he:Ext w w') (hF:∀ k∈F,w.heap.size≤k∧k<w'.heap.size):Sep w0 w' (F::Fs):=by
 refine ⟨h.ext.trans he,fun G hG k hk=>?_,List.pairwise_cons.2 ⟨fun G hG k hk hg=>?_,h.ap⟩⟩
 ·rcases List.mem_cons.1 hG with rfl|hG
  ·exact ⟨Nat.le_trans h.ext.size (hF k hk).1,(hF k hk).2⟩
  ·exact (h.call he).lo G hG k hk
 ·have:=(hF k hk).1;have:=(h.lo G hG k hg).2;omega
theorem Sep.new (h:Sep w0 w Fs) {b:Nat} {o:Obj} (hb:b=w.heap.size) (hw:w'=w.alloc o):Sep w0 w' ([b]::Fs)∧w'.heap[b]?=some o:=by
 subst hb hw;refine ⟨h.add ((Ext.refl w).alloc o) fun k hk=>?_,heap_alloc_new w _⟩;rw [List.mem_singleton.1 hk];exact ⟨Nat.le_refl _,by have:=(heap_alloc_new w o);rcases Nat.lt_or_ge w.heap.size (w.alloc o).heap.size with g|g;exact g;rw [Array.getElem?_eq_none g] at this;cases this⟩
theorem Sep.drop (h:Sep w0 w Fs) (n:Nat):Sep w0 w (Fs.drop n):=
 ⟨h.ext,fun F hF=>h.lo F (List.mem_of_mem_drop hF),h.ap.sublist (List.drop_sublist n Fs)⟩
theorem Sep.perm {Gs:List (List Nat)} (h:Sep w0 w Fs) (hs:Fs.Perm Gs):Sep w0 w Gs:=
 ⟨h.ext,fun F hF=>h.lo F (hs.mem_iff.2 hF),hs.pairwise h.ap (fun {_ _} hab k hb ha=>hab k ha hb)⟩
theorem Sep.at_ (h:Sep w0 w Fs) {i:Nat} {F:List Nat} (hi:Fs[i]?=some F):∀ k∈F,w0.heap.size≤k∧k<w.heap.size:=h.lo F (zmg hi)
theorem Sep.apart (h:Sep w0 w Fs) {i j:Nat} {F G:List Nat} (hi:Fs[i]?=some F) (hj:Fs[j]?=some G) (hij:i≠j):∀ k∈G,k∉F:=by
 obtain ⟨h1,rfl⟩:=List.getElem?_eq_some_iff.1 hi;obtain ⟨h2,rfl⟩:=List.getElem?_eq_some_iff.1 hj;intro k hk hf
 rcases Nat.lt_or_gt_of_ne hij with g|g
 ·exact (List.pairwise_iff_getElem.1 h.ap) i j h1 h2 g k hf hk
 ·exact (List.pairwise_iff_getElem.1 h.ap) j i h2 h1 g k hk hf
theorem Sep.chg (h:Sep w0 w Fs) {i:Nat} {F F':List Nat} (hi:Fs[i]?=some F) (hc:Chn F w w') (hn:∀ k∈F',(k∈F∨w.heap.size≤k)∧k<w'.heap.size):Sep w0 w' (Fs.set i F'):=by
 have hF:=h.at_ hi;have hx:Ext w0 w':=hc.ext h.ext fun k hk=>(hF k hk).1
 refine ⟨hx,fun G hG k hk=>?_,?_⟩
 ·rcases List.mem_or_eq_of_mem_set hG with hG|rfl
  ·have:=h.lo G hG k hk;have:=hc.size;omega
  ·obtain ⟨h1,h2⟩:=hn k hk;refine ⟨?_,h2⟩
   rcases h1 with h1|h1
   ·exact (hF k h1).1
   ·exact Nat.le_trans h.ext.size h1
 ·have key:∀ j G,Fs[j]?=some G→j≠i→(∀ k∈F',k∉G):=fun j G hj hji k hk hg=>by
   rcases (hn k hk).1 with h1|h1
   ·exact h.apart hi hj (fun e=>hji e.symm) k hg h1
   ·have:=(h.at_ hj k hg).2;omega
  refine List.pairwise_iff_getElem.2 fun a b ha hb hab=>?_;simp only [List.length_set] at ha hb;rw [List.getElem_set,List.getElem_set]
  by_cases e1:i=a
  ·rw [if_pos e1,if_neg Oo];exact key b _ (zge hb) Oo
  ·rw [if_neg e1]
   by_cases e2:i=b
   ·rw [if_pos e2];intro k hk hf;exact key a _ (zge ha) Oo k hf hk
   ·rw [if_neg e2];exact (List.pairwise_iff_getElem.1 h.ap) a b ha hb hab
theorem Sep.keep (h:Sep w0 w Fs) {i j:Nat} {F G:List Nat} (hi:Fs[i]?=some F) (hc:Chn F w w') (hj:Fs[j]?=some G) (hij:i≠j):∀ k∈G,w'.heap[k]?=w.heap[k]?:=
 fun k hk=>hc.block k (h.at_ hj k hk).2 (h.apart hi hj hij k hk)
end
def rowF (v:Value):List Nat:=v.ownBlock.toList
theorem qo {w w':World} {base size n:Nat} {e:TypeId} {v:Value} {xs:List Value} (h:w.ownsRow base e size v n xs) (hk:∀ k∈rowF v,w'.heap[k]?=w.heap[k]?):w'.ownsRow base e size v n xs:=by
 refine ⟨h.1,h.2.imp id ?_⟩;rintro ⟨g,cap,cur,rfl,h1,h2,h3⟩;exact ⟨g,cap,cur,rfl,h1,by rw [hk g (List.mem_singleton.2 rfl)];exact h2,h3⟩
theorem qfl {w:World} {base size n:Nat} {e:TypeId} {v:Value} {xs:List Value} (h:w.ownsRow base e size v n xs):∀ k∈rowF v,base≤k∧k<w.heap.size:=by
 intro k hk;cases hv:v.ownBlock with
 | none=>rw [rowF,hv] at hk;cases hk
 | some g=>
  rw [rowF,hv] at hk;rw [List.mem_singleton.1 hk];exact h.lt g hv
theorem q2w {w:World} {base size n:Nat} {e:TypeId} {v:Value} {xs:List Value} (h:w.ownsRow base e size v n xs):w.ownsRow 0 e size v n xs:=
 ⟨h.1,h.2.imp id fun ⟨g,cap,cur,e1,_,r⟩=>⟨g,cap,cur,e1,Nat.zero_le _,r⟩⟩
theorem AppV.row {P:Program} {e size:Nat} {w:World} {v:Value} {n:Nat} {xs:List Value} {t ty:TypeId} {i:TypeInfo} {z:Value} {A:oA} {m c:Nat} {news:List Value} {K:Value→World→Prop} (ht:P.underlying t=some (.slice e)) (hi:P.info? e=some i) (hz:i.zero=some z)
  (hsize:i.size=size) (hzs:z.cells.size=size) (hsz:0<size) (h:w.ownsRow 0 e size v n xs) (hl:news.length=m*size)
  (hA:news≠[]→∃ b off,A=some ⟨b,off,none⟩∧CellsAt w b off news) (h1:∀ u∈news,u.oneCell'=true) (hb:(n+m)*i.bytes≤140737488355328) (h63:n+m≤140737488355328)
  (hk:∀ A' c' w',w'.ownsRow 0 e size (.slice A' (n+m) c') (n+m) (xs++news)→Chn (rowF v) w w'→(∀ k∈rowF (.slice A' (n+m) c'),(k∈rowF v∨w.heap.size≤k)∧k<w'.heap.size)→K (.slice A' (n+m) c') w'):AppV P #[t,t] ty v (.slice A m c) w K:=by
 refine AppV.own ht hi hz hsize hzs hsz h (Nat.zero_le _) hl hA h1 hb h63 fun v' w' ho hg hor=>?_;obtain ⟨A',c',rfl⟩:=q8 ho;refine hk A' c' w' ho (Chn.grown hg) fun k hk=>⟨?_,(qfl ho k hk).2⟩
 rcases hor with hor|hor
 ·left;rw [rowF,← hor];exact hk
 ·right
  rw [rowF,hor] at hk;rw [List.mem_singleton.1 hk];exact Nat.le_refl _
theorem AppV.bys {P:Program} {e:TypeId} {w:World} {v:Value} {x m:LB} {t ty:TypeId} {i:TypeInfo} {z:Value} {B:oA} {d:Nat} {K:Value→World→Prop} (ht:P.underlying t=some (.slice e)) (hi:P.info? e=some i) (hz:i.zero=some z)
  (hsize:i.size=1) (hzs:z.cells.size=1) (hby:i.bytes≤16) (h:w.ownsRow 0 e 1 v x.length (byV x)) (hS:SlAt encB 1 w B m) (hlen:x.length+m.length≤8000000000000)
  (hk:∀ A' c' w',w'.ownsRow 0 e 1 (.slice A' (x.length+m.length) c') (x++m).length (byV (x++m))→Chn (rowF v) w w'→(∀ k∈rowF (.slice A' (x.length+m.length) c'),(k∈rowF v∨w.heap.size≤k)∧k<w'.heap.size)→K (.slice A' (x.length+m.length) c') w') :
  AppV P #[t,t] ty v (.slice B m.length d) w K:=by
 refine AppV.row (news:=byV m) ht hi hz hsize hzs Od h (by rw [qae,Nat.mul_one]) (qin hS) (fun u hu=>?_) (Nat.le_trans (Nat.mul_le_mul hlen hby) Od) Oo fun A' c' w' ho hc hn=>hk A' c' w' ?_ hc hn
 ·simp only [byV,List.mem_map] at hu;obtain ⟨v,_,rfl⟩:=hu;rfl
 ·rw [byV,List.map_append,zla];exact ho
theorem BS.keep {w w':World} {v:Value} {l:LB} (h:BS w v l) (hk:∀ k∈rowF v,w'.heap[k]?=w.heap[k]?):BS w' v l:=by
 obtain ⟨A,c,rfl,h2,h3⟩:=h;refine ⟨A,c,rfl,h2,⟨fun hn=>?_⟩⟩;obtain ⟨b,off,rfl,h4⟩:=h3.at_ hn;refine ⟨b,off,rfl,fun j x hx k u hu=>?_⟩;have:=h4 j x hx k u hu;rw [← this,World.cell?_of_block];exact hk b (List.mem_singleton.2 rfl)
structure NewS (e:TypeId) (w w':World) (v:Value) (l:LB):Prop where
 ext:Ext w w'
 h:∃ A c,v=.slice A l.length c∧l.length≤c∧(l=[]∨∃ g cur,A=some ⟨g,0,none⟩∧w'.heap[g]?=some (.cells cur e)∧l.length≤cur.size∧cur.toList.take l.length=byV l∧c≤cur.size)
 lo:∀ k∈rowF v,w.heap.size≤k∧k<w'.heap.size
theorem NewS.bs {e:TypeId} {w w':World} {v:Value} {l:LB} (h:NewS e w w' v l):BS w' v l:=by
 obtain ⟨A,c,rfl,h1,h2⟩:=h.h;refine ⟨A,c,rfl,h1,⟨fun hn=>?_⟩⟩;obtain ⟨g,cur,rfl,h3,h4,h5,_⟩:=h2.resolve_left hn;refine ⟨g,0,rfl,fun j u hu k v hv=>?_⟩;cases k with
 | succ k=>simp [encB] at hv
 | zero=>
  simp only [encB,List.getElem?_cons_zero,Option.some.injEq] at hv;subst hv;have hj:(cur.toList.take l.length)[j]?=some (.int .u8 u.toNat):=by rw [h5,byV,List.getElem?_map,hu];rfl
  rw [List.getElem?_take] at hj
  split at hj
  ·rw [qa h3]
   simpa using hj
  ·cases hj
theorem NewS.nil (e:TypeId) {w w':World} (he:Ext w w'):NewS e w w' (.slice none 0 0) []:=⟨he,⟨none,0,rfl,Nat.le_refl _,.inl rfl⟩,fun k hk=>by cases hk⟩
theorem qd4 (A:oA) (n c m d:Nat):rowF (.slice A n c)=rowF (.slice A m d):=by cases A<;>rfl
theorem NewS.of {e:TypeId} {w w':World} {A:oA} {c:Nat} {l:LB} (he:Ext w w') (h:w'.ownsRow w.heap.size e 1 (.slice A l.length c) l.length (byV l)) (d:Nat) (hd:l.length≤d) (hd2:d≤c):NewS e w w' (.slice A l.length d) l:=by
 refine ⟨he,⟨A,d,rfl,hd,?_⟩,fun k hk=>qfl h k (by rw [qd4 A _ _ l.length d];exact hk)⟩
 rcases h.2 with ⟨e1,h0⟩|⟨g,cap,cur,e1,h1,h2,h3,h4,h5,h6⟩
 ·exact .inl (List.eq_nil_of_length_eq_zero h0)
 ·cases e1;exact .inr ⟨g,cur,rfl,h2,by omega,by rw [Nat.mul_one] at h6;exact h6,by omega⟩
theorem NewS.back {e:TypeId} {w0 w w':World} {v:Value} {l:LB} (h:NewS e w w' v l) (he:Ext w0 w):NewS e w0 w' v l:=
 ⟨he.trans h.ext,h.h,fun k hk=>⟨Nat.le_trans he.size (h.lo k hk).1,(h.lo k hk).2⟩⟩
end V
namespace V
theorem Ext.first {w w':World} {o:Obj} (he:Ext w w') (ho:w'.heap[w.heap.size]?=some o):Ext (w.alloc o) w':=by
 have hlt:w.heap.size<w'.heap.size:=by
  rcases Nat.lt_or_ge w.heap.size w'.heap.size with h|h
  ·exact h
  ·rw [Array.getElem?_eq_none h] at ho;cases ho
 refine ⟨he.os,he.tape,he.output,by rw [World.size_alloc];omega,fun k hk=>?_⟩;rw [World.size_alloc] at hk
 by_cases e:k=w.heap.size
 ·subst e;rw [ho,heap_alloc_new]
 ·rw [Below.heap_alloc _ _ _ Oo];exact he.block k Oo
def qj4 (w:World) (n k:Nat):List (Nat × Obj):=((List.range k).map fun i=>(n+i,(w.heap[n+i]?).getD (.cells #[] 0))).reverse
section
variable {J:List (Nat × Obj)→World→Prop}
theorem Carr.since (hJ:Carr J) {X:List (Nat × Obj)} {w w':World} (h:J X w) (he:Ext w w'):J (qj4 w' w.heap.size (w'.heap.size-w.heap.size)++X) w':=by
 have key:∀ k,w.heap.size+k≤w'.heap.size→∃ v,v.heap.size=w.heap.size+k∧Ext v w'∧J (qj4 w' w.heap.size k++X) v:=by
  intro k
  induction k with
  | zero=>intro _;exact ⟨w,rfl,he,h⟩
  | succ k ih=>
   intro hk;obtain ⟨v,h1,h2,h3⟩:=ih Oo;have ho:w'.heap[v.heap.size]?=some w'.heap[v.heap.size]:=Array.getElem?_eq_getElem Oo;refine ⟨v.alloc w'.heap[v.heap.size],by rw [World.size_alloc,h1];omega,h2.first ho,?_⟩;have h4:=hJ.new w'.heap[v.heap.size] h3;have e:qj4 w' w.heap.size (k+1)=(v.heap.size,w'.heap[v.heap.size])::qj4 w' w.heap.size k:=by
    rw [qj4,List.range_succ,List.map_append,List.reverse_append,qj4];simp only [List.map_cons,List.map_nil,List.reverse_cons,List.reverse_nil,List.nil_append,List.singleton_append,← h1,ho,Option.getD_some]
   rw [e];exact h4
 have hs:=he.size;obtain ⟨v,h1,h2,h3⟩:=key (w'.heap.size-w.heap.size) Oo;exact hJ.ext h3 h2
theorem Carr.dropL (hJ:Carr J) {w:World}:∀ {A Z:List (Nat × Obj)},J (A++Z) w→J Z w
 | [],_,h=>h
 | _::A,_,h=>Carr.dropL hJ (A:=A) (hJ.drop h)
theorem Carr.pick (hJ:Carr J) {w:World}:∀ (Y A Z:List (Nat × Obj)),J (A++Z) w→(Y.map (·.1)).Nodup→(∀ x∈Y,x∈A)→J (Y++Z) w
 | [],A,Z,h,_,_=>hJ.dropL h
 | x::Y,A,Z,h,hn,hs=>by
  obtain ⟨s,t,rfl⟩:=List.append_of_mem (hs x mh);rw [List.map_cons,List.nodup_cons] at hn;have h1:J ((s++t)++x::Z) w:=hJ.perm h (by
   rw [List.append_assoc,List.append_assoc,List.cons_append];exact List.Perm.append_left s (by rw [← List.singleton_append,← List.singleton_append (x:=x) (l:=Z),← List.append_assoc,← List.append_assoc];exact List.perm_append_comm.append_right Z))
  have h2:=Carr.pick hJ Y (s++t) (x::Z) h1 hn.2 (fun y hy=>by
   have h3:=hs y (zmc hy)
   rcases List.mem_append.1 h3 with h3|h3
   ·exact List.mem_append_left _ h3
   ·rcases List.mem_cons.1 h3 with rfl|h3
    ·exact absurd (List.mem_map_of_mem hy) hn.1
    ·exact List.mem_append_right _ h3)
  exact hJ.perm h2 List.perm_middle
theorem Carr.call (hJ:Carr J) {X Y:List (Nat × Obj)} {w w':World} (h:J X w) (hm:Mem w w' Y):J (Y++X) w':=by
 refine hJ.pick Y _ X (hJ.since h hm.ext) hm.nodup fun x hx=>?_;have h1:=(hm.own x hx).1;have h2:=(hm.own x hx).2;have h3:=hm.lt (b:=x.1) (o:=x.2) hx;rw [qj4,List.mem_reverse];refine List.mem_map.2 ⟨x.1-w.heap.size,List.mem_range.2 Oo,?_⟩;rw [show w.heap.size+(x.1-w.heap.size)=x.1 by omega,h2];rfl
def RowX (e:TypeId) (size:Nat) (v:Value) (n:Nat) (xs:List Value) (Y:List (Nat × Obj)):Prop:=
 xs.length=n*size∧((v=.slice none 0 0∧n=0∧Y=[])∨∃ g cap cur,v=.slice (some ⟨g,0,none⟩) n cap∧Y=[(g,.cells cur e)]∧n≤cap∧cap≤maxLen∧cur.size=cap*size∧cur.toList.take (n*size)=xs)
theorem RowX.nil (e:TypeId) (size:Nat):RowX e size (.slice none 0 0) 0 [] []:=⟨by rw [Nat.zero_mul];rfl,.inl ⟨rfl,rfl,rfl⟩⟩
theorem RowX.own {e:TypeId} {size n:Nat} {v:Value} {xs:List Value} {Y:List (Nat × Obj)} {w:World} (h:RowX e size v n xs Y) (hY:∀ x∈Y,w.heap[x.1]?=some x.2):w.ownsRow 0 e size v n xs:=by
 obtain ⟨h1,⟨rfl,h2,_⟩|⟨g,cap,cur,rfl,rfl,r⟩⟩:=h
 ·exact ⟨h1,.inl ⟨rfl,h2⟩⟩
 ·exact ⟨h1,.inr ⟨g,cap,cur,rfl,Nat.zero_le _,hY _ (List.mem_singleton.2 rfl),r⟩⟩
theorem RowX.of {e:TypeId} {size n base:Nat} {v:Value} {xs:List Value} {w:World} (h:w.ownsRow base e size v n xs):∃ Y,RowX e size v n xs Y∧(Y.map (·.1))=v.ownBlock.toList∧∀ x∈Y,base≤x.1∧w.heap[x.1]?=some x.2:=by
 obtain ⟨h1,⟨rfl,h2⟩|⟨g,cap,cur,rfl,h2,h3,r⟩⟩:=h
 ·exact ⟨[],⟨h1,.inl ⟨rfl,h2,rfl⟩⟩,rfl,fun x hx=>by cases hx⟩
 ·exact ⟨[(g,.cells cur e)],⟨h1,.inr ⟨g,cap,cur,rfl,rfl,r⟩⟩,rfl,fun x hx=>by rw [List.mem_singleton.1 hx];exact ⟨h2,h3⟩⟩
theorem RowX.slice {e:TypeId} {size n:Nat} {v:Value} {xs:List Value} {Y:List (Nat × Obj)} (h:RowX e size v n xs Y):∃ A c,v=.slice A n c:=by
 obtain ⟨_,⟨rfl,rfl,_⟩|⟨g,cap,cur,rfl,_⟩⟩:=h<;>exact ⟨_,_,rfl⟩
theorem AppV.carr {P:Program} {e size:Nat} {w:World} {v:Value} {n:Nat} {xs:List Value} {t ty:TypeId} {i:TypeInfo} {z:Value} {A:oA} {m c:Nat} {news:List Value} {X Y:List (Nat × Obj)} {K:Value→World→Prop} (hJ:Carr J) (h:J (Y++X) w) (hR:RowX e size v n xs Y)
  (ht:P.underlying t=some (.slice e)) (hi:P.info? e=some i) (hz:i.zero=some z) (hsize:i.size=size) (hzs:z.cells.size=size) (hsz:0<size) (hl:news.length=m*size)
  (hA:news≠[]→∃ b off,A=some ⟨b,off,none⟩∧CellsAt w b off news) (h1:∀ u∈news,u.oneCell'=true) (hb:(n+m)*i.bytes≤140737488355328) (h63:n+m≤140737488355328)
  (hk:∀ A' c' Y' w',RowX e size (.slice A' (n+m) c') (n+m) (xs++news) Y'→J (Y'++X) w'→K (.slice A' (n+m) c') w'):AppV P #[t,t] ty v (.slice A m c) w K:=by
 refine AppV.own ht hi hz hsize hzs hsz (hR.own fun x hx=>hJ.get h (List.mem_append_left _ hx)) (Nat.zero_le _) hl hA h1 hb h63 fun v' w' ho hg hor=>?_;obtain ⟨Y',hR',hY1,hY2⟩:=RowX.of ho;obtain ⟨A',c',rfl⟩:=hR'.slice;refine hk A' c' Y' w' hR' ?_;obtain ⟨_,⟨rfl,rfl,rfl⟩|⟨g,cap,cur,rfl,rfl,hn1,hn2,hn3,hn4⟩⟩:=hR
 ·have he:Ext w w':=⟨hg.os,hg.tape,hg.output,hg.size,fun k hk=>hg.block k hk (fun e=>by cases e)⟩
  rcases hor with hor|hor
  ·rw [hor] at hY1;have:Y'=[]:=List.map_eq_nil_iff.1 hY1;subst this;exact hJ.ext h he
  ·refine hJ.call h ⟨he,fun x hx=>⟨?_,(hY2 x hx).2⟩,by rw [hY1,hor];simp⟩;have:x.1∈Y'.map (·.1):=List.mem_map_of_mem hx;rw [hY1,hor] at this;rw [List.mem_singleton.1 this];exact Nat.le_refl _
 ·have hgo:=hJ.get h mh;have hlt:g<w.heap.size:=by
   rcases Nat.lt_or_ge g w.heap.size with h' | h'
   ·exact h'
   ·rw [Array.getElem?_eq_none h'] at hgo;cases hgo
  have hs:=hg.size;have ho':w'.heap[g]?=some w'.heap[g]:=Array.getElem?_eq_getElem Oo;have h2:=hJ.set w'.heap[g] h;have he:Ext (setO w g w'.heap[g]) w':=by
   refine ⟨hg.os,hg.tape,hg.output,by simpa [setO] using hg.size,fun k hk=>?_⟩;have hk':k<w.heap.size:=by simpa [setO] using hk
   by_cases e:k=g
   ·subst e;rw [qpr hgo,ho']
   ·rw [qhy e];exact hg.block k hk' (fun e'=>e (by simpa [Value.ownBlock] using e'))
  rcases hor with hor|hor
  ·have h3:=hJ.ext h2 he;have e1:Y'=[(g,w'.heap[g])]:=by
    rw [hor] at hY1
    match Y',hY1,hY2 with
    | [x],hY1,hY2=>
     have e2:x.1=g:=by simpa [Value.ownBlock] using hY1
     have e3:=(hY2 x (List.mem_singleton.2 rfl)).2;rw [e2,ho'] at e3;have e4:x=(g,w'.heap[g]):=Prod.ext e2 (Option.some.inj e3).symm;rw [e4]
   rw [e1];exact h3
  ·have h4:J (Y'++(g,w'.heap[g])::X) w':=by
    refine hJ.call h2 ⟨he,fun x hx=>⟨?_,(hY2 x hx).2⟩,by rw [hY1,hor];simp⟩;have:x.1∈Y'.map (·.1):=List.mem_map_of_mem hx;rw [hY1,hor] at this;rw [List.mem_singleton.1 this];simp [setO]
   exact hJ.dropM h4
theorem qj3 {w:World} {b:Nat} {cur cs:Array Value} {t:TypeId} (h:w.heap[b]?=some (.cells cur t)):w.setRow b cs=setO w b (.cells cs t):=by
 have hr:=qcq (cs:=cs) h;unfold World.setRow setO at *
 congr 1
 apply Array.ext_getElem?;intro i
 by_cases hi:i=b
 ·subst hi;have hlt:i<w.heap.size:=by
   rcases Nat.lt_or_ge i w.heap.size with h' | h'
   ·exact h'
   ·rw [Array.getElem?_eq_none h'] at h;cases h
  rw [hr,Array.getElem?_setIfInBounds_self_of_lt hlt]
 ·rw [Array.getElem?_modify,if_neg (fun e=>hi e.symm),Array.getElem?_setIfInBounds_ne (fun e=>hi e.symm)]
theorem StoreA.carr {P:Program} (hJ:Carr J) {A B:List (Nat × Obj)} {b:Nat} {cur:Array Value} {t:TypeId} {vs:List Value} {w:World} {K:World→Prop} (h:J (A++(b,.cells cur t)::B) w) (hl:vs.length=cur.size) (h1:∀ v∈vs,v.oneCell'=true)
  (hk:∀ w',J (A++(b,.cells vs.toArray t)::B) w'→K w'):StoreA P w b 0 vs K:=by
 have hg:=hJ.get h (List.mem_append_right _ mh);have hr:=run_storeCells_at P b 0 t vs 0 cur w hg (by simp [hl]) h1;refine ⟨⟨_,hr,hk _ ?_⟩⟩;have e:(cur.toList.take (0+0)++vs++cur.toList.drop (0+0+vs.length)).toArray=vs.toArray:=by
  rw [List.take_zero,List.nil_append,List.drop_of_length_le (by simp [hl]),List.append_nil]
 have e2:∀ z,w.setRow b z=setO w b (.cells z t):=fun z=>qj3 hg
 simp only [Nat.zero_add,Nat.add_zero,List.take_zero,List.nil_append] at e ⊢;rw [e2,e];exact hJ.setM _ h
def SeqX (P:Program) (gf:FuncId) (lb:List Value) (m:Nat) (I:Nat→List (Nat × Obj)→World→Prop) (B:Nat→List Value→List (Nat × Obj)→World→Prop) (Ix:Nat→List (Nat × Obj)→World→Prop):Prop:=
 ∀ (l:Nat) (w:World),I 0 [] w→(∀ k x X w,k<m→B k x X w→YieldV P l x w fun v w'=>(v=.bool true∧I (k+1) X w')∨(v=.bool false∧Ix k X w'))→
  Gv P gf (.func (.yield l) #[] #[]::lb) w fun _ w'=>I m [] w'∨∃ k,k<m∧Ix k [] w'
theorem Carr.ex {α:Type} {p:α→Prop} {J:α→List (Nat × Obj)→World→Prop} (h:∀ c,Carr (J c)):Carr fun X w=>∃ c,p c∧J c X w:=
 ⟨fun ⟨c,q,k⟩ he=>⟨c,q,(h c).ext k he⟩,fun ⟨c,_,k⟩ hx=>(h c).get k hx,fun o ⟨c,q,k⟩=>⟨c,q,(h c).new o k⟩,fun o' ⟨c,q,k⟩=>⟨c,q,(h c).set o' k⟩,fun ⟨c,q,k⟩=>⟨c,q,(h c).drop k⟩,fun ⟨c,q,k⟩ hp=>⟨c,q,(h c).perm k hp⟩⟩
theorem Carr.and {p:Prop} {J:List (Nat × Obj)→World→Prop} (h:Carr J):Carr fun X w=>p∧J X w:=
 ⟨fun ⟨q,k⟩ he=>⟨q,h.ext k he⟩,fun ⟨_,k⟩ hx=>h.get k hx,fun o ⟨q,k⟩=>⟨q,h.new o k⟩,fun o' ⟨q,k⟩=>⟨q,h.set o' k⟩,fun ⟨q,k⟩=>⟨q,h.drop k⟩,fun ⟨q,k⟩ hp=>⟨q,h.perm k hp⟩⟩
variable {P:Program} {n:Nat} {r:Option Nat}
theorem q8n {f:Operand} {ps:Array Tmp} {assign body:Code} {Q:QW} {ρ:Nat→Value} {ds:List Deferred} {w:World} {gf:FuncId} {lb:List Value} {m:Nat}
  (hf:ev ρ f=.func (.func gf) #[] lb.toArray) (he:qei P gf=true) (hpn:ps.toList.all (Nat.blt · n)=true)
  (J:Nat→List (Nat × Obj)→World→Prop) (B:Nat→List Value→List (Nat × Obj)→World→Prop) (Jx:Code→Nat→List (Nat × Obj)→World→Prop)
  (hseq:∀ (L:List (Nat × Obj)) (Lx:Code→List (Nat × Obj)),SeqX P gf lb m (fun k X w=>J k (X++L) w) (fun k x X w=>B k x (X++L) w) (fun k X w=>∃ c,Jx c k (X++Lx c) w))
  (hps:∀ k x X w,B k x X w→x.length=ps.size) (hJ:∀ k,Carr (J k)) (hB:∀ k x,Carr (B k x)) (hJx:∀ c k,Carr (Jx c k)) (h0:J 0 [] w)
  (hbody:∀ l D ob ob' k x X w1,k<m→B k x ((l,ob)::(D,.deferred (some []))::X) w1→
   qha P n (some l) assign (q8f fun ρ1 ds1 w1'=>BeginA (B k x) l ob ob' w1' ds1
    (fun w2=>qha P n (some l) body (q4h (J (k+1) ((l,ob')::(D,.deferred (some []))::X)) (fun c=>Jx c k ((l,ob')::(D,.deferred (some []))::X))) ρ1 [] w2)) (qwg ps.toList x ρ) [] w1)
  (hdone:∀ D w',J m [(D,.deferred (some []))] w'→Q .normal ρ ({ target:=.collected D,args:=#[] }::ds) w')
  (hstop:∀ D c k w',k<m→Jx c k [(D,.deferred (some []))] w'→q8s c Q ρ ({ target:=.collected D,args:=#[] }::ds) w'):RangeW P n none f ps assign body Q ρ ds w:=by
 refine ⟨fun a ha hd=>?_⟩;subst hd;refine wpIn_rangeFunc ?_;intro fn hfn;obtain ⟨rec,hrec⟩:∃ rec:LoopState→Option Code→Loop,rec=fun st pe=>{ state:=st,pending:=pe,fn,tmps:=a.tmps,params:=ps,assign,body,defers:=w.heap.size }:=⟨_,rfl⟩
 obtain ⟨W1,hW1⟩:∃ W1,(w.alloc (.deferred (some []))).alloc (.loop (rec .ready none))=W1:=⟨_,rfl⟩
 have hD:=(hJ 0).new (.deferred (some [])) h0;have hL:=(hJ 0).new (.loop (rec .ready none)) hD;rw [hW1,World.size_alloc] at hL;refine ⟨w.heap.size+1,[{ target:=.collected w.heap.size,args:=#[] }],W1,{ target:=.fn (.func gf) lb.toArray,args:=#[.func (.yield (w.heap.size+1)) #[] #[]] },W1,gf,
  #[.func (.yield (w.heap.size+1)) #[] #[]]++lb.toArray,W1,?_,?_,fun _ _=>trivial,?_,fun h=>by simp [Fr] at h,?_⟩
 ·rw [← hW1,hrec];exact run_enterLoop_outer _ _ _ _ _
 ·have:a.eval f=.func (.func gf) #[] lb.toArray:=by rw [ha.eval,hf]
  simp only [resolve,this];simp [go_sem]
 ·simp only [invoke];exact qc6 he _
 ·have ea:#[Value.func (.yield (w.heap.size+1)) #[] #[]]++lb.toArray=(Value.func (.yield (w.heap.size+1)) #[] #[]::lb).toArray:=by rw [← Array.toList_inj];simp
  rw [ea];refine qcn.2 ((hseq [(w.heap.size+1,.loop (rec .ready none)),(w.heap.size,.deferred (some []))] (fun c=>[(w.heap.size+1,.loop (rec .done (some c))),(w.heap.size,.deferred (some []))]) (w.heap.size+1) W1 hL ?_).2.mono ?_)
  ·intro k x X W hkm hk;have hxl:=hps k x _ W hk;replace hk:=(hB k x).perm hk List.perm_append_comm;have hl:=(hB k x).get hk mh;have hy:=run_yield (P:=P) (args:=x.toArray) hl (by rw [hrec];simpa using hxl);rw [hrec] at hy;refine ⟨⟨fn,_,assign,body,hy,roundIn_of_wpIn hfn ?_⟩⟩;have h1:=hbody (w.heap.size+1) w.heap.size _ (.loop { rec .ready none with state:=.busy }) k x X W hkm hk;have hz:(ps.zip x.toArray).foldl (fun t (p,v)=>t.setIfInBounds p v) a.tmps=(ps.toList.zip x).foldl (fun t (p,v)=>t.setIfInBounds p v) a.tmps:=by
    rw [← Array.foldl_toList];simp
   have hst:Sw n (qwg ps.toList x ρ) { tmps:=(ps.zip x.toArray).foldl (fun t (p,v)=>t.setIfInBounds p v) a.tmps,defers:=[] }:=by
    rw [hz];exact qud _ _ _ _ hpn ha
   refine Go.wpIn_mono (F:=Fr (some (w.heap.size+1))) (qe2 assign _ _ _ _ h1 _ hst rfl) fun e a1 w1 hq=>?_;obtain ⟨ρ1,hst1,hq⟩:=hq;cases e with
   | normal=>
    obtain ⟨hd1,Y,hY,hb1⟩:=hq;have hb1:=hb1 _ ((hB k x).set (.loop { rec .ready none with state:=.busy }) hY);refine ⟨_,run_beginRound ((hB k x).get hY mh) (by rw [hrec]),?_⟩;refine Go.wpIn_mono (F:=Fr (some (w.heap.size+1))) (qe2 body _ _ _ _ hb1 _ hst1 hd1) fun e a2 w2 hq=>?_;obtain ⟨ρ2,hst2,hq⟩:=hq;cases e with
    | normal=>
     refine ⟨_,_,run_endRound none ((hJ _).get hq mh),_,rfl,.inl ⟨rfl,?_⟩⟩;have:=(hJ (k+1)).perm ((hJ (k+1)).set (.loop (rec .ready none)) hq) (List.perm_append_comm (l₁:=[_,_]));rw [hrec] at this ⊢;exact this
    | ret=>
     refine ⟨_,_,run_endRound (some .ret) ((hJx _ _).get hq mh),_,rfl,.inr ⟨rfl,.ret,?_⟩⟩;have:=(hJx _ k).perm ((hJx _ k).set (.loop (rec .done (some .ret))) hq) (List.perm_append_comm (l₁:=[_,_]));rw [hrec] at this ⊢;exact this
    | exit id=>
     refine ⟨_,_,run_endRound (some (.exit id)) ((hJx _ _).get hq mh),_,rfl,.inr ⟨rfl,.exit id,?_⟩⟩;have:=(hJx _ k).perm ((hJx _ k).set (.loop (rec .done (some (.exit id)))) hq) (List.perm_append_comm (l₁:=[_,_]));rw [hrec] at this ⊢;exact this
    | goto t=>
     refine ⟨_,_,run_endRound (some (.goto t)) ((hJx _ _).get hq mh),_,rfl,.inr ⟨rfl,.goto t,?_⟩⟩;have:=(hJx _ k).perm ((hJx _ k).set (.loop (rec .done (some (.goto t)))) hq) (List.perm_append_comm (l₁:=[_,_]));rw [hrec] at this ⊢;exact this
    | panic ch=>exact hq.elim
    | outgrown=>exact hq.elim
   | ret=>exact hq.elim
   | exit id=>exact hq.elim
   | goto t=>exact hq.elim
   | panic ch=>exact hq.elim
   | outgrown=>exact hq.elim
  ·rintro e W2 ⟨v,rfl,h|⟨k,hk,c,h⟩⟩
   ·have hl:=(hJ _).get h mh;have:=run_endLoop (P:=P) hl (by rw [hrec];simp);rw [hrec] at this;exact ⟨none,_,this,ρ,ha,hdone _ _ ((hJ _).drop ((hJ _).set _ h))⟩
   ·have hl:=(hJx _ _).get h mh;have:=run_endLoop (P:=P) hl (by rw [hrec];simp);rw [hrec] at this;refine ⟨some c,_,this,?_⟩;have hs:=hstop _ c k _ hk ((hJx _ _).drop ((hJx _ _).set (.loop { rec .done (some c) with state:=.exhausted }) h));rw [hrec] at hs;cases c with
    | ret=>exact Go.wpIn_ret ⟨ρ,ha,hs⟩
    | exit id=>exact Go.wpIn_exit ⟨ρ,ha,hs⟩
    | goto t=>exact Go.wpIn_goto ⟨ρ,ha,hs⟩
    | _=>exact hs.elim
end
end V
def or4 (a b c d:Int):Int:=if a≠0 then a else if b≠0 then b else if c≠0 then c else d
def or4L (l:List Int):Int:=match l with
 | []=>0
 | a::l=>if a≠0 then a else or4L l
theorem q6e (a b c d:Int):or4L [a,b,c,d]=or4 a b c d:=by
 unfold or4;simp only [or4L]
 by_cases h:d≠0
 ·rw [if_pos h]
 ·rw [if_neg h,Classical.not_not.1 h]
theorem qqy (a b c d:Int) (nb:Nat) (w:World) (hb:w.heap[nb]?=some (.cells #[ii a,ii b,ii c,ii d] 3)) :
  Gv Tryz.prog 67 [.slice (some ⟨nb,0,none⟩) 4 4] w fun v w'=>v=ii (or4 a b c d)∧w'=w:=by
 have hat:∀ i (x:Int),[a,b,c,d][i]?=some x→w.cell? ⟨nb,i,none⟩=some (ii x):=fun i x hx=>by
  rw [qa hb]
  match i,hx with
  | 0,hx=>cases hx;rfl
  | 1,hx=>cases hx;rfl
  | 2,hx=>cases hx;rfl
  | 3,hx=>cases hx;rfl
  | _+4,hx=>cases hx
 refine ze Tryz.func67 Tryz.ntmps67 ?_;refine qe (fun i:Nat=>[(3,ii 0),(6,.slice (some ⟨nb,0,none⟩) 4 4),(7,ii 4),(8,ii i)]) (fun i w1=>i≤4∧or4 a b c d=or4L ([a,b,c,d].drop i)∧w1=w) (fun i=>4-i) 0 ⟨rfl,rfl,rfl,rfl,trivial⟩ ⟨by omega,(q6e a b c d).symm,rfl⟩ ?_;rintro i w1 ρ' ⟨h1,h2,rfl⟩;(conv=>whnf);refine zC (fun _=>zw ?_) (fun _=>zw ?_)
 ·have hi:i<[a,b,c,d].length:=by show i<4;omega
  have hd:[a,b,c,d].drop i=[a,b,c,d][i]::[a,b,c,d].drop (i+1):=List.drop_eq_getElem_cons hi;have hx:=hat i _ (zge hi);rw [hd,or4L] at h2;obtain ⟨x,ex⟩:∃ x,x=[a,b,c,d][i]:=⟨_,rfl⟩
  rw [← ex] at h2 hx;refine ElemV.own1 i rfl Oo (zw ?_);refine LoadV.of hx (zw ?_);refine zC (fun _=>zu ?_) (fun _=>zu ?_)
  ·rw [if_pos Oo] at h2;exact ⟨by rw [h2],rfl⟩
  ·rw [if_neg Oo] at h2;exact ⟨i+1,⟨rfl,rfl,rfl,rfl,trivial⟩,⟨by omega,h2,rfl⟩,by omega⟩
 ·obtain rfl:i=4:=by omega
  exact ⟨by rw [h2];rfl,rfl⟩
theorem qon (x:Int) (w:World):Gv Tryz.prog 185 [ii x] w fun v w'=>v=.bool false∧w'=w:=by
 refine ze Tryz.func185 Tryz.ntmps185 ?_;exact ⟨congrArg Value.bool (decide_eq_false (fun h=>h rfl)),rfl⟩
def intC (x y:Int):Int:=if x<y then -1 else if y<x then 1 else 0
theorem qg9 (x y:Int) (w:World):Gv Tryz.prog 117 [ii x,ii y] w fun v w'=>v=ii (intC x y)∧w'=w:=by
 refine ze Tryz.func117 Tryz.ntmps117 ?_;refine zcv (qon x w) ?_;rintro r w1 ⟨rfl,rfl⟩;(conv=>whnf);refine zcv (qon y w1) ?_;rintro r w2 ⟨rfl,rfl⟩;conv=>whnf
 (repeat' (first|refine zp ?_|refine zC (fun _=>zw ?_) (fun _=>zw ?_)))
 ·exact ⟨by rw [intC,if_pos Oo],rfl⟩
 ·exact ⟨by rw [intC,if_neg Oo,if_pos Oo],rfl⟩
 ·exact ⟨by rw [intC,if_neg Oo,if_neg Oo],rfl⟩
theorem q3y:∀ a b:LB,Lib.compareBytes a b=if a<b then -1 else if a=b then 0 else 1
 | [],[]=>rfl
 | [],_::_=>by rw [Lib.compareBytes,if_pos (List.nil_lt_cons _ _)]
 | _::_,[]=>by rw [Lib.compareBytes,if_neg (List.not_lt_nil _),if_neg Js]
 | x::a,y::b=>by
  rw [Lib.compareBytes]
  by_cases h1:x<y
  ·rw [if_pos h1,if_pos (List.cons_lt_cons_iff.2 (.inl h1))]
  ·rw [if_neg h1]
   by_cases h2:y<x
   ·rw [if_pos h2,if_neg (fun g=>(List.cons_lt_cons_iff.1 g).elim h1 fun e=>by rw [e.1] at h2;exact UInt8.lt_irrefl _ h2),if_neg (fun g=>by cases g;exact UInt8.lt_irrefl _ h2)]
   ·have e:x=y:=by
     rw [UInt8.lt_iff_toNat_lt] at h1 h2;exact UInt8.toNat_inj.1 Oo
    subst e;rw [if_neg h2,q3y a b]
    by_cases h3:a<b
    ·rw [if_pos h3,if_pos (List.cons_lt_cons_iff.2 (.inr ⟨rfl,h3⟩))]
    ·rw [if_neg h3,if_neg (fun g=>(List.cons_lt_cons_iff.1 g).elim h1 fun e=>h3 e.2)]
     by_cases h4:a=b
     ·rw [if_pos h4,if_pos (by rw [h4])]
     ·rw [if_neg h4,if_neg (fun g=>h4 (List.cons.inj g).2)]
theorem qfb (a b:ByteArray) (w:World):Gv Tryz.prog 118 [.string a,.string b] w fun v w'=>v=ii (txtC a b)∧w'=w:=by
 refine qfj Ok ((Tryz.strings_Compare a b w).mono ?_);rintro e w' ⟨rfl,rfl⟩;refine ⟨_,rfl,congrArg (Value.int .i64) ?_,rfl⟩;rw [q3y,txtC]
 by_cases h1:a.data.toList<b.data.toList
 ·rw [if_pos h1,if_pos (qex.2 h1)]
 ·rw [if_neg h1,if_neg (fun g=>h1 (qex.1 g))]
  by_cases h2:a.data.toList=b.data.toList
  ·rw [if_pos h2,if_pos (qao.2 (qks h2))]
  ·rw [if_neg h2,if_neg (fun g=>h2 (by rw [qao.1 g]))]
theorem qxn (a b:TM):or4 (intC a.kind b.kind) (txtC a.text b.text) (txtC a.type b.type) (txtC a.lang b.lang)=cmpT a b:=by
 by_cases h:a.kind≠b.kind
 ·by_cases h2:a.kind<b.kind
  ·have hI:intC a.kind b.kind=-1:=by rw [intC,if_pos h2]
   rw [hI,cmpT,if_pos h,if_pos h2];rfl
  ·have hI:intC a.kind b.kind=1:=by rw [intC,if_neg h2,if_pos Oo]
   rw [hI,cmpT,if_pos h,if_neg h2];rfl
 ·have hI:intC a.kind b.kind=0:=by rw [intC,if_neg Oo,if_neg Oo]
  rw [hI,cmpT,if_neg h];rfl
theorem qdt (a b:TM) (w:World):Gv Tryz.prog 68 [qbq a,qbq b] w fun r w'=>r=ii (cmpT a b)∧Ext w w':=by
 refine ze Tryz.func68 Tryz.ntmps68 ?_;refine znm (Mem.nil w) fun b1 w1 hm=>zw ?_;refine znm hm fun b2 w2 hm=>zw ?_;refine DrawV.free rfl Ok (zw ?_);refine zd ?_;refine zf ?_ (by intro wd hd;(conv=>whnf);refine LoadV.mem (Mem.call (Mem.drew hm) hd) (i:=1) rfl rfl ?_;(conv=>whnf);exact ⟨xr,rfl⟩);refine zd ?_;refine zf ?_ (by intro wd hd;(conv=>whnf);refine LoadV.mem (Mem.call (Mem.drew hm) hd) (i:=0) rfl rfl ?_;(conv=>whnf);exact ⟨xr,rfl⟩);apply zsd
 ·intro wd hd;(conv=>whnf);refine zcv (qg9 a.kind b.kind wd) ?_;rintro v w7 ⟨rfl,rfl⟩;exact ⟨xr,rfl⟩
 (conv=>whnf);refine zd ?_;refine zf ?_ (by intro wd hd;(conv=>whnf);refine LoadV.mem (Mem.call (Mem.drew hm) hd) (i:=1) rfl rfl ?_;(conv=>whnf);exact ⟨xr,rfl⟩);refine zd ?_;refine zf ?_ (by intro wd hd;(conv=>whnf);refine LoadV.mem (Mem.call (Mem.drew hm) hd) (i:=0) rfl rfl ?_;(conv=>whnf);exact ⟨xr,rfl⟩);apply zsd
 ·intro wd hd;(conv=>whnf);refine zcv (qfb a.text b.text wd) ?_;rintro v w7 ⟨rfl,rfl⟩;exact ⟨xr,rfl⟩
 (conv=>whnf);refine zd ?_;refine zf ?_ (by intro wd hd;(conv=>whnf);refine LoadV.mem (Mem.call (Mem.drew hm) hd) (i:=1) rfl rfl ?_;(conv=>whnf);exact ⟨xr,rfl⟩);refine zd ?_;refine zf ?_ (by intro wd hd;(conv=>whnf);refine LoadV.mem (Mem.call (Mem.drew hm) hd) (i:=0) rfl rfl ?_;(conv=>whnf);exact ⟨xr,rfl⟩);apply zsd
 ·intro wd hd;(conv=>whnf);refine zcv (qfb a.type b.type wd) ?_;rintro v w7 ⟨rfl,rfl⟩;exact ⟨xr,rfl⟩
 (conv=>whnf);refine zd ?_;refine zf ?_ (by intro wd hd;(conv=>whnf);refine LoadV.mem (Mem.call (Mem.drew hm) hd) (i:=1) rfl rfl ?_;(conv=>whnf);exact ⟨xr,rfl⟩);refine zd ?_;refine zf ?_ (by intro wd hd;(conv=>whnf);refine LoadV.mem (Mem.call (Mem.drew hm) hd) (i:=0) rfl rfl ?_;(conv=>whnf);exact ⟨xr,rfl⟩);apply zsd
 ·intro wd hd;(conv=>whnf);refine zcv (qfb a.lang b.lang wd) ?_;rintro v w7 ⟨rfl,rfl⟩;exact ⟨xr,rfl⟩
 (conv=>whnf);apply StepD.of (fun v wx=>∃ nb,v=.slice (some ⟨nb,0,none⟩) 4 4∧wx.heap[nb]?=some (.cells #[ii (intC a.kind b.kind),ii (txtC a.text b.text),ii (txtC a.type b.type),ii (txtC a.lang b.lang)] 3)) (fun _ _ _ h he=>let ⟨nb,h1,h2⟩:=h;⟨nb,h1,he.get h2⟩)
 ·intro wd hd;(conv=>whnf);refine ⟨fun nb wx hb hw=>?_⟩;subst hb hw;(conv=>whnf);exact ⟨(Ext.refl wd).alloc _,_,rfl,heap_alloc_new wd _⟩
 (conv=>whnf);apply zsd
 ·intro wd hd;(conv=>whnf);rintro v ⟨nb,rfl,hn⟩;(conv=>whnf);refine zcv (qqy _ _ _ _ nb wd hn) ?_;rintro v w7 ⟨rfl,rfl⟩;rw [qxn];exact ⟨xr,rfl⟩
 (conv=>whnf);refine zd ?_;intro wd hd;conv=>whnf
 (repeat (intro _ _;(conv=>whnf)))
 exact ⟨rfl,(hm.drew.call hd).ext⟩
theorem q5a (a b:Q4):or4 (cmpT a.g b.g) (cmpT a.s b.s) (cmpT a.p b.p) (cmpT a.o b.o)=cmpQ a b:=rfl
theorem qh2 (a b:Q4) (w:World):Gv Tryz.prog 43 [qef a,qef b] w fun r w'=>r=ii (cmpQ a b)∧Ext w w':=by
 refine ze Tryz.func43 Tryz.ntmps43 ?_;refine znm (Mem.nil w) fun b1 w1 hm=>zw ?_;refine znm hm ?_;intro b2 w2 hm;have hc1:CellsAt w2 b1 0 (q7 a):=CellsAt.mem hm (zmc mh);have hc2:CellsAt w2 b2 0 (q7 b):=CellsAt.mem hm mh;have hd:Ext w2 w2.drew:=(Ext.refl w2).drew;have c1:∀ k,k<4→CellsAt w2.drew b1 (0+k*4) (encT (a.at k)):=fun k hk=>(qi hc1 k hk).ext hd
 have c2:∀ k,k<4→CellsAt w2.drew b2 (0+k*4) (encT (b.at k)):=fun k hk=>(qi hc2 k hk).ext hd
 clear hd;(conv=>whnf);refine DrawV.free rfl Ok (zw ?_);refine zd ?_;apply zsd
 ·intro wd hd;(conv=>whnf);refine LoadA.cells ((c1 3 Od).ext hd) rfl (zw ?_);exact ⟨xr,rfl⟩
 (conv=>whnf);refine zd ?_;apply zsd
 ·intro wd hd;(conv=>whnf);refine LoadA.cells ((c2 3 Od).ext hd) rfl (zw ?_);exact ⟨xr,rfl⟩
 (conv=>whnf);apply zsd
 ·intro wd hd;(conv=>whnf);refine zcv (qdt a.g b.g wd) ?_;rintro v w7 ⟨rfl,he⟩;exact ⟨he,rfl⟩
 (conv=>whnf);refine zd ?_;apply zsd
 ·intro wd hd;(conv=>whnf);refine LoadA.cells ((c1 0 Od).ext hd) rfl (zw ?_);exact ⟨xr,rfl⟩
 (conv=>whnf);refine zd ?_;apply zsd
 ·intro wd hd;(conv=>whnf);refine LoadA.cells ((c2 0 Od).ext hd) rfl (zw ?_);exact ⟨xr,rfl⟩
 (conv=>whnf);apply zsd
 ·intro wd hd;(conv=>whnf);refine zcv (qdt a.s b.s wd) ?_;rintro v w7 ⟨rfl,he⟩;exact ⟨he,rfl⟩
 (conv=>whnf);refine zd ?_;apply zsd
 ·intro wd hd;(conv=>whnf);refine LoadA.cells ((c1 1 Od).ext hd) rfl (zw ?_);exact ⟨xr,rfl⟩
 (conv=>whnf);refine zd ?_;apply zsd
 ·intro wd hd;(conv=>whnf);refine LoadA.cells ((c2 1 Od).ext hd) rfl (zw ?_);exact ⟨xr,rfl⟩
 (conv=>whnf);apply zsd
 ·intro wd hd;(conv=>whnf);refine zcv (qdt a.p b.p wd) ?_;rintro v w7 ⟨rfl,he⟩;exact ⟨he,rfl⟩
 (conv=>whnf);refine zd ?_;apply zsd
 ·intro wd hd;(conv=>whnf);refine LoadA.cells ((c1 2 Od).ext hd) rfl (zw ?_);exact ⟨xr,rfl⟩
 (conv=>whnf);refine zd ?_;apply zsd
 ·intro wd hd;(conv=>whnf);refine LoadA.cells ((c2 2 Od).ext hd) rfl (zw ?_);exact ⟨xr,rfl⟩
 (conv=>whnf);apply zsd
 ·intro wd hd;(conv=>whnf);refine zcv (qdt a.o b.o wd) ?_;rintro v w7 ⟨rfl,he⟩;exact ⟨he,rfl⟩
 (conv=>whnf);apply StepD.of (fun v wx=>∃ nb,v=.slice (some ⟨nb,0,none⟩) 4 4∧wx.heap[nb]?=some (.cells #[ii (cmpT a.g b.g),ii (cmpT a.s b.s),ii (cmpT a.p b.p),ii (cmpT a.o b.o)] 3)) (fun _ _ _ h he=>let ⟨nb,h1,h2⟩:=h;⟨nb,h1,he.get h2⟩)
 ·intro wd hd;(conv=>whnf);refine ⟨fun nb wx hb hw=>?_⟩;subst hb hw;(conv=>whnf);exact ⟨(Ext.refl wd).alloc _,_,rfl,heap_alloc_new wd _⟩
 (conv=>whnf);apply zsd
 ·intro wd hd;(conv=>whnf);rintro v ⟨nb,rfl,hn⟩;(conv=>whnf);refine zcv (qqy _ _ _ _ nb wd hn) ?_;rintro v w7 ⟨rfl,rfl⟩;rw [q5a];exact ⟨xr,rfl⟩
 (conv=>whnf);refine zd ?_;intro wd hd;conv=>whnf
 (repeat (intro _ _;(conv=>whnf)))
 exact ⟨rfl,(hm.drew.call hd).ext⟩
theorem qfg (a b:Q4) (w:World):Gv Tryz.prog 46 [qef a,qef b] w fun r w'=>r=ii (cmpQ a b)∧Ext w w':=by
 refine ze Tryz.func46 Tryz.ntmps46 ?_;refine znm (Mem.nil w) fun b1 w1 hm=>zw ?_;refine znm hm ?_;intro b2 w2 hm;have c1:CellsAt w2 b1 0 (q7 a):=CellsAt.mem hm (zmc mh);have c2:CellsAt w2 b2 0 (q7 b):=CellsAt.mem hm mh;(conv=>whnf);refine LoadA.cells (qi c1 3 Od) rfl (zw ?_);refine LoadA.cells (qi c2 3 Od) rfl (zw ?_);refine zcv (qax a.g b.g w2) ?_;rintro r w3 ⟨rfl,he3⟩;have c1:=c1.ext he3;have c2:=c2.ext he3;have hm:=hm.call he3
 by_cases h0:cmpT a.g b.g=0
 ·refine zu ?_;refine LoadA.cells (qi c1 0 Od) rfl (zw ?_);refine LoadA.cells (qi c2 0 Od) rfl (zw ?_);refine zcv (qax a.s b.s w3) ?_;rintro r w4 ⟨rfl,he4⟩;have c1:=c1.ext he4;have c2:=c2.ext he4;have hm:=hm.call he4
  by_cases h1:cmpT a.s b.s=0
  ·refine zu ?_;refine LoadA.cells (qi c1 1 Od) rfl (zw ?_);refine LoadA.cells (qi c2 1 Od) rfl (zw ?_);refine zcv (qax a.p b.p w4) ?_;rintro r w5 ⟨rfl,he5⟩;have c1:=c1.ext he5;have c2:=c2.ext he5;have hm:=hm.call he5
   by_cases h2:cmpT a.p b.p=0
   ·refine zu ?_;refine LoadA.cells (qi c1 2 Od) rfl (zw ?_);refine LoadA.cells (qi c2 2 Od) rfl (zw ?_);refine zcv (qax a.o b.o w5) ?_;rintro r w6 ⟨rfl,he6⟩;(conv=>whnf);exact ⟨by rw [cmpQ,if_neg (fun g=>g h0),if_neg (fun g=>g h1),if_neg (fun g=>g h2)],(hm.call he6).ext⟩
   ·refine zu ?_;exact ⟨by rw [cmpQ,if_neg (fun g=>g h0),if_neg (fun g=>g h1),if_pos h2],hm.ext⟩
  ·refine zu ?_;exact ⟨by rw [cmpQ,if_neg (fun g=>g h0),if_pos h1],hm.ext⟩
 ·refine zu ?_;exact ⟨by rw [cmpQ,if_pos h0],hm.ext⟩
section
variable (qs:List Q4) (A:oA) (n c:Nat) (w:World)
theorem q04 (hS:SlAt q7 16 w A qs) (hn:qs.length=n) (hb:n≤140737488355328) (hq:∀ q∈qs,qci q) (hM:MaxLenAt w) (hT:CellsAt w 6 0 qbt) :
  Gv Tryz.prog 95 [.slice A n c] w fun r w'=>(∃ i:Int,r=.tuple #[ii i,ii (valE qs)])∧Ext w w':=by
 refine ze Tryz.func95 Tryz.ntmps95 ?_;refine zC (fun _=>zw ?_) (fun _=>zw ?_)
 ·exact ⟨⟨0,by rw [qp5 Oo];rfl⟩,Ext.refl w⟩
 ·have hlong:¬ 1048576<qs.length:=by omega
  refine qe (fun i:Nat=>[(0,.slice A n c),(11,.slice A n c),(12,ii n),(13,ii i)]) (fun i w1=>i≤n∧(∀ j r,j<i→qs[j]?=some r→qa9 r=0)∧Ext w w1) (fun i=>n-i) 0 ⟨rfl,rfl,rfl,rfl,trivial⟩ ⟨Nat.zero_le _,fun j r h=>absurd h (Nat.not_lt_zero _),Ext.refl w⟩ ?_;rintro i w1 ρ' ⟨i1,i2,he1⟩;(conv=>whnf);refine zC (fun _=>zw ?_) (fun _=>zw ?_)
  ·have hi:i<qs.length:=by omega
   have hqi:qs[i]?=some qs[i]:=zge hi;refine ElemV.sl (hS.ext he1) hn i rfl Oo ?_;intro eb eo hcell;(conv=>whnf);refine LoadA.cells hcell rfl (zw ?_);refine znm (Mem.nil w1) fun nb w2 hm=>zw ?_;refine StoreA.all (vs:=q7 qs[i]) hm (i:=0) rfl rfl (qct _) ?_;intro w3 hm;have hm:Mem w1 w3 [(nb,.cells (q7 qs[i]).toArray 26)]:=hm;(conv=>whnf);refine zl hm 0 ?_;have he3:=he1.trans hm.ext;refine zcv (qf4 qs[i] (hq _ (List.getElem_mem hi)) w3 (hM.ext he3) (hT.ext he3)) ?_;rintro r w4 ⟨rfl,he4⟩;have he4:=he3.trans he4;(conv=>whnf);refine zC (fun _=>zu ?_) (fun _=>zu ?_)
   ·exact ⟨⟨i,by rw [qp6 hlong hqi i2 rfl Oo]⟩,he4⟩
   ·refine ⟨i+1,⟨rfl,rfl,rfl,rfl,trivial⟩,⟨by omega,fun j r hj hr=>?_,he4⟩,by omega⟩
    by_cases e:j=i
    ·subst e;rw [hqi] at hr;cases hr;omega
    ·exact i2 j r Oo hr
  ·obtain rfl:i=n:=by omega
   have hz:∀ q∈qs,qa9 q=0:=fun q hq=>by
    obtain ⟨j,hj⟩:=List.mem_iff_getElem?.1 hq;exact i2 j q (by have:=(List.getElem?_eq_some_iff.1 hj).1;omega) hj
   refine qe (fun k:Nat=>[(0,.slice A i c),(7,ii (k+1:Nat))]) (fun k w1=>qwz qs (k+1)∧Ext w w1) (fun k=>i-k) 0 ⟨rfl,rfl,trivial⟩ ⟨fun j h=>by omega,he1⟩ ?_;rintro k w2 ρ2 ⟨k1,he2⟩;(conv=>whnf);refine zC (fun _=>zw ?_) (fun _=>zw ?_)
   ·have hk:k+1<qs.length:=by omega
    obtain ⟨b,off,rfl,hat⟩:=(hS.ext he2).at_ (by intro e;rw [e] at hk;cases hk);have hqa:qs[k]?=some qs[k]:=zge Oo;have hqb:qs[k+1]?=some qs[k+1]:=zge hk;have hca:=(hat k _ hqa).ext (Ext.refl w2).drew;have hcb:=(hat (k+1) _ hqb).ext (Ext.refl w2).drew;refine DrawV.free rfl Ok (zw ?_);(iterate 3 (refine zd ?_));refine zf ?_ (by intro wd hd;(conv=>whnf);refine ⟨⟨b,off,k,rfl,by omega,by omega,?_⟩⟩;exact ⟨xr,rfl⟩);apply zsd
    ·intro wd hd;(conv=>whnf);refine LoadA.cells (hca.ext hd) rfl (zw ?_);exact ⟨xr,rfl⟩
    (conv=>whnf);refine zd ?_;refine zd ?_;refine zf ?_ (by intro wd hd;(conv=>whnf);refine ⟨⟨b,off,(k+1),rfl,by omega,by omega,?_⟩⟩;exact ⟨xr,rfl⟩);apply zsd
    ·intro wd hd;(conv=>whnf);refine LoadA.cells (hcb.ext hd) rfl (zw ?_);exact ⟨xr,rfl⟩
    (conv=>whnf);apply zsd
    ·intro wd hd;(conv=>whnf);refine zcv (qh2 qs[k] qs[k+1] wd) ?_;rintro v w7 ⟨rfl,he⟩;exact ⟨he,rfl⟩
    (conv=>whnf);refine zd ?_;intro wd hd;have he3:=(he2.drew).trans hd;(conv=>whnf);refine zC (fun _=>zu ?_) (fun _=>zu ?_)
    ·refine ⟨⟨(k+1:Nat),?_⟩,he3⟩;rw [qun hlong hz hqa hqb (fun g=>by have:=ql7.2 g;omega)];rfl
    ·refine ⟨k+1,⟨rfl,congrArg (Value.int .i64) Oo,trivial⟩,⟨fun j hj x y hx hy=>?_,he3⟩,by omega⟩
     by_cases e:j=k
     ·subst e;rw [hqa] at hx;rw [hqb] at hy;cases hx;cases hy;exact ql7.1 Oo
     ·exact k1 j Oo x y hx hy
   ·exact ⟨⟨0,by rw [q03 hlong hz (fun j hj=>k1 j Oo)];rfl⟩,he2⟩
theorem qrz (hS:SlAt q7 16 w A qs) (hn:qs.length=n) (hb:n≤140737488355328) (hq:∀ q∈qs,qci q) :
  Gv Tryz.prog 71 [.slice A n c] w fun r w'=>(∃ i:Int,r=.tuple #[ii i,ii (valE qs)])∧Ext w w':=by
 refine ze Tryz.func71 Tryz.ntmps71 ?_;refine zC (fun _=>zw ?_) (fun _=>zw ?_)
 ·exact ⟨⟨0,by rw [qp5 Oo];rfl⟩,Ext.refl w⟩
 ·have hlong:¬ 1048576<qs.length:=by omega
  refine qe (fun i:Nat=>[(0,.slice A n c),(4,ii i)]) (fun i w1=>i≤n∧(∀ j r,j<i→qs[j]?=some r→qa9 r=0)∧Ext w w1) (fun i=>n-i) 0 ⟨rfl,rfl,trivial⟩ ⟨Nat.zero_le _,fun j r h=>absurd h (Nat.not_lt_zero _),Ext.refl w⟩ ?_;rintro i w1 ρ' ⟨i1,i2,he1⟩;(conv=>whnf);refine zC (fun _=>zw ?_) (fun _=>zw ?_)
  ·have hi:i<qs.length:=by omega
   have hqi:qs[i]?=some qs[i]:=zge hi;refine ElemV.sl (hS.ext he1) hn i rfl Oo ?_;intro eb eo hcell;(conv=>whnf);refine LoadA.cells hcell rfl (zw ?_);refine zcv (qeb qs[i] (hq _ (List.getElem_mem hi)) w1) ?_;rintro r w4 ⟨rfl,he4⟩;have he4:=he1.trans he4;(conv=>whnf);refine zC (fun _=>zu ?_) (fun _=>zu ?_)
   ·exact ⟨⟨i,by rw [qp6 hlong hqi i2 rfl Oo]⟩,he4⟩
   ·refine ⟨i+1,⟨rfl,rfl,trivial⟩,⟨by omega,fun j r hj hr=>?_,he4⟩,by omega⟩
    by_cases e:j=i
    ·subst e;rw [hqi] at hr;cases hr;omega
    ·exact i2 j r Oo hr
  ·obtain rfl:i=n:=by omega
   have hz:∀ q∈qs,qa9 q=0:=fun q hq=>by
    obtain ⟨j,hj⟩:=List.mem_iff_getElem?.1 hq;exact i2 j q (by have:=(List.getElem?_eq_some_iff.1 hj).1;omega) hj
   refine qe (fun k:Nat=>[(0,.slice A i c),(6,ii (k+1:Nat))]) (fun k w1=>qwz qs (k+1)∧Ext w w1) (fun k=>i-k) 0 ⟨rfl,rfl,trivial⟩ ⟨fun j h=>by omega,he1⟩ ?_;rintro k w2 ρ2 ⟨k1,he2⟩;(conv=>whnf);refine zC (fun _=>zw ?_) (fun _=>zw ?_)
   ·have hk:k+1<qs.length:=by omega
    obtain ⟨b,off,rfl,hat⟩:=(hS.ext he2).at_ (by intro e;rw [e] at hk;cases hk);have hqa:qs[k]?=some qs[k]:=zge Oo;have hqb:qs[k+1]?=some qs[k+1]:=zge hk;have hca:=(hat k _ hqa).ext (Ext.refl w2).drew;have hcb:=(hat (k+1) _ hqb).ext (Ext.refl w2).drew;refine DrawV.free rfl Ok (zw ?_);(iterate 3 (refine zd ?_));refine zf ?_ (by intro wd hd;(conv=>whnf);refine ⟨⟨b,off,k,rfl,by omega,by omega,?_⟩⟩;exact ⟨xr,rfl⟩);apply zsd
    ·intro wd hd;(conv=>whnf);refine LoadA.cells (hca.ext hd) rfl (zw ?_);exact ⟨xr,rfl⟩
    (conv=>whnf);refine zd ?_;refine zd ?_;refine zf ?_ (by intro wd hd;(conv=>whnf);refine ⟨⟨b,off,(k+1),rfl,by omega,by omega,?_⟩⟩;exact ⟨xr,rfl⟩);apply zsd
    ·intro wd hd;(conv=>whnf);refine LoadA.cells (hcb.ext hd) rfl (zw ?_);exact ⟨xr,rfl⟩
    (conv=>whnf);apply zsd
    ·intro wd hd;(conv=>whnf);refine zcv (qfg qs[k] qs[k+1] wd) ?_;rintro v w7 ⟨rfl,he⟩;exact ⟨he,rfl⟩
    (conv=>whnf);refine zd ?_;intro wd hd;have he3:=(he2.drew).trans hd;(conv=>whnf);refine zC (fun _=>zu ?_) (fun _=>zu ?_)
    ·refine ⟨⟨(k+1:Nat),?_⟩,he3⟩;rw [qun hlong hz hqa hqb (fun g=>by have:=ql7.2 g;omega)];rfl
    ·refine ⟨k+1,⟨rfl,congrArg (Value.int .i64) Oo,trivial⟩,⟨fun j hj x y hx hy=>?_,he3⟩,by omega⟩
     by_cases e:j=k
     ·subst e;rw [hqa] at hx;rw [hqb] at hy;cases hx;cases hy;exact ql7.1 Oo
     ·exact k1 j Oo x y hx hy
   ·exact ⟨⟨0,by rw [q03 hlong hz (fun j hj=>k1 j Oo)];rfl⟩,he2⟩
end
namespace V
theorem Fall.copy {P:Program} {ρ:Nat→Value} {o:Oper} {c:Call} {w:World} {K:Value→World→Prop} {a b:Value} (ho:o.op=.call c) (hc:c.callee=.builtin .copy) (hv:evs ρ c.args.toList=[a,b]) (v:Value) (w':World)
  (hrun:(Builtin.copy_ c.argTypes o.type #[a,b]).run P w=.ok v w') (hk:K v w'):Fall P (execOp (ev ρ) o) w K:=by
 have he:execOp (ev ρ) o=(do pure (.value (← Builtin.copy_ c.argTypes o.type (c.args.map (ev ρ))))):=by
  simp only [execOp,ho,resolve,hc];rfl
 have hv':c.args.map (ev ρ)=#[a,b]:=by
  rw [qc0] at hv;rw [← Array.toList_inj];simpa using hv
 rw [he,hv'];exact ⟨.inl ⟨v,w',by rw [Sem.run_bind,hrun];rfl,hk⟩⟩
end V
theorem ql4 {x:Int} {d n:Nat} (h:x=(n:Int)):bnd (some (ii x)) d n:=by
 subst h;rfl
theorem q7e (T:List TM) (h:VOk T) (hr:RiseT T) (hk:∀ t∈T,1≤t.kind∧t.kind≤3) (he:∀ t∈T,qas t=0) (b:Nat) (t:TM) (ht:t∈T∨t=zTM) (hto:TermOk t) (w:World) (hV:VocAt w b (vocB T))
  (hM:MaxLenAt w) (hT:CellsAt w 6 0 qbt) :
  Gv Tryz.prog 102 [pp b,qbq t] w fun r w'=>r=.tuple #[ii (noT T t:Nat),.bool true]∧Ext w w':=by
 have hb3:=hV.tot (k:=3) Od;refine ze Tryz.func102 Tryz.ntmps102 ?_;refine znm (Mem.nil w) fun tb w1 hm=>zw ?_;refine zl hm 0 ?_;refine RunV.eqTerm (a:=t) (b:=zTM) (.inl rfl) (zw ?_);cases hz:qck t zTM
 case true=>
  obtain rfl:=qb0.1 hz;refine zu ?_;exact ⟨by rw [qis rfl];rfl,hm.ext⟩
 have ht:t∈T:=ht.resolve_right fun e=>by rw [e,qb0.2 rfl] at hz;cases hz
 refine zu ?_;refine zl hm 0 ?_;have hen:=qln t hto w1 (hM.ext hm.ext) (hT.ext hm.ext);rw [if_pos (he t ht)] at hen;refine zcv (hen) ?_;rintro r w2 ⟨rfl,he2⟩;have hm:=hm.call he2;refine zu ?_;have hkt:=hk t ht;obtain ⟨k,hk3,ek⟩:∃ k:Nat,k<3∧t.kind=((k+1:Nat):Int):=⟨(t.kind-1).toNat,by omega,by omega⟩
 obtain ⟨d,hd,_⟩:=hV.cell;obtain ⟨hc0,hc1,hDk⟩:=hd k hk3;have hcl:CellsAt w b (2*k) [.pointer (some ⟨d k,0,none⟩),ii (vTot (vocB T) k+1:Nat)]:=fun j v hv=>by
  match j,hv with
  | 0,hv=>rw [← hv];exact hc0
  | 1,hv=>rw [← hv];exact hc1
 refine DrawV.gen (fun S vals w'=>Al w [(tb,.cells #[ii t.kind,.string t.text,.string t.type,.string t.lang] 24)] (.cells #[.pointer none,ii 0] 201) (.cells #[.pointer (some ⟨d k,0,none⟩),ii (vTot (vocB T) k+1:Nat)] 201) (.cells #[] 0) (.cells #[] 0) (S 8) false (S 9) false (vals 8) undef w') rfl Ok (fun vals=>Al.start hm.drew) ?_;clear hm;(conv=>whnf);refine zg ?_;refine zg ?_;refine StepG.of (ii t.kind) (fun S vals wd hk hp hI=>zw ?_) (zw ?_)
 ·refine zr hI.mem 0 ?_;exact ⟨rfl,hI⟩
 rw [ek];(iterate 3 (refine zg ?_));refine StepG.of (.pointer (some ⟨b,2*k,none⟩)) (fun S vals wd hk hp hI=>zw ?_) (zw ?_)
 ·refine IdxV.at_ k Oo Oo (zw ?_);exact ⟨congrArg (fun o=>Value.pointer (some ⟨b,o,none⟩)) (by rw [show tsz Tryz.prog 201=2 from by kernel_rfl];show 0+0+k*2=2*k;omega),hI⟩
 refine StepG.of (.agg #[.pointer (some ⟨d k,0,none⟩),ii (vTot (vocB T) k+1:Nat)]) (fun S vals wd hk hp hI=>zw ?_) (zw ?_)
 ·refine LoadA.cells (CellsAt.ext hcl hI.mem.ext) (by rw [show tsz Tryz.prog 201=2 from by kernel_rfl];rfl) (zw ?_);exact ⟨rfl,hI⟩
 refine StepG.any (fun S vals wd hk hp hI=>?_) (zw ?_)
 ·dsimp only at hI;rw [hk] at hI;(conv=>whnf);refine ⟨fun x wx hb hw=>?_⟩;subst hb hw;(conv=>whnf);exact ⟨trivial,hI.new1⟩
 refine StepG.of undef (fun S vals wd hk hp hI=>?_) (zw ?_)
 ·dsimp only at hI;have h9:S 8=true:=hp 8 Od;rw [hk,h9] at hI;obtain ⟨nb,hv,M,hmM,hKx⟩:=hI.put1;rw [ql hv];(conv=>whnf);refine zS hmM 0 fun wx hmx=>zw ?_;exact ⟨rfl,by show Al _ _ _ _ _ _ (S 8) false true false _ _ _;rw [h9];exact hKx hmx rfl⟩
 intro vals w5 hI;obtain ⟨t8,hv1,hm⟩:=hI.done1;rw [ql hv1];clear hI;(conv=>whnf);refine zr hm 0 ?_;have hDk5:DictAt w5 (d k) (qh (secE T k)):=by
  have:=hDk.ext hm.ext
  rwa [h.sDict hk3] at this
 refine zcv (q16 (secE T k) (h.d k hk3) (d k) ⟨(qbv t).toArray⟩ w5 hDk5) ?_;rintro r w6 ⟨⟨N,hN,rfl⟩,he6⟩;obtain ⟨f1,f2,f3⟩:=h.find hr hk hk3 ht ek hN;rw [show decide (N<(secE T k).length∧(⟨(tx (secE T k) N).toArray⟩:ByteArray)=⟨(qbv t).toArray⟩)=true from decide_eq_true ⟨f1,f2⟩];have hm:=hm.call he6;have hn3:=(h.d k hk3).n;have htk:=hV.tot (k:=k) Oo;refine zu ?_;refine zr hm 0 ?_;refine zv ?_;refine zcv (qs2 (d k) (qh (secE T k)) w6 (hDk5.ext he6)) ?_;rintro r w7 ⟨rfl,rfl⟩;rw [(h.d k hk3).eN];refine zu ?_;refine zr hm 0 ?_;refine zv ?_;refine ⟨?_,hm.ext⟩;rw [f3];rfl
def idF (T:List TM) (q:Q4) (i j:Nat):Int:=if j<i then (noT T (gat q j):Nat) else 0
def gQ (q:Q4):Q4:=⟨q.g,q.s,q.p,q.o⟩
theorem q5m (q:Q4) {k:Nat} (hk:k<4):(gQ q).at k=gat q k:=by
 rcases (show k=0∨k=1∨k=2∨k=3 by omega) with rfl|rfl|rfl|rfl<;>rfl
theorem qyj (T:List TM) (q:Q4) {i:Nat} (_hi:i<4):(fnA 4 (inF (idF T q i))).setIfInBounds i (ii (noT T (gat q i):Nat))=fnA 4 (inF (idF T q (i+1))):=by
 rw [qdw];refine qjc fun j hj=>?_
 by_cases e:j=i
 ·subst e;rw [qb6,inF,idF,if_pos (Nat.lt_succ_self _)]
 ·rw [qbk _ _ _ _ e,inF,inF,idF,idF]
  congr 1
  by_cases h:j<i
  ·rw [if_pos h,if_pos Oo]
  ·rw [if_neg h,if_neg Oo]
theorem q3r (T:List TM) (h:VOk T) (hr:RiseT T) (hk:∀ t∈T,1≤t.kind∧t.kind≤3) (he:∀ t∈T,qas t=0) (b:Nat) (q:Q4) (hq:∀ k,k<4→gat q k∈T∨gat q k=zTM) (hqo:qci q) (w:World) (hV:VocAt w b (vocB T))
  (hM:MaxLenAt w) (hT:CellsAt w 6 0 qbt) :
  Gv Tryz.prog 57 [pp b,qef q] w fun r w'=>r=.tuple #[idsV fun k=>noT T (gat q k),.bool true]∧Ext w w':=by
 refine ze Tryz.func57 Tryz.ntmps57 ?_;refine znm (Mem.nil w) fun b3 w1 hm=>zw ?_;refine znm hm fun b4 w2 hm=>zw ?_;refine znm hm ?_;intro b6 w3 hm;have hc:CellsAt w3 b3 0 (q7 q):=CellsAt.mem hm (zmg (i:=2) rfl);(conv=>whnf);refine LoadA.cells (qi hc 3 Oo) rfl (zw ?_);refine LoadA.cells (qi hc 0 Oo) rfl (zw ?_);refine LoadA.cells (qi hc 1 Oo) rfl (zw ?_);refine LoadA.cells (qi hc 2 Oo) rfl (zw ?_);refine qe (fun k:Nat=>[(0,pp b),(4,pp b4),(6,pp b6),(19,qef (gQ q)),(20,ii k)])
  (fun k w'=>k≤4∧Mem w w' [(b6,.cells (fnA 4 (inF (idF T q k))) 101),(b4,.cells #[ii 0,ii 0,ii 0,ii 0] 101),(b3,.cells (q7 q).toArray 26)]) (fun k=>4-k) 0 ⟨rfl,rfl,rfl,rfl,rfl,trivial⟩ ⟨by omega,hm⟩ ?_
 clear hm hc;rintro k w4 ρ' ⟨k1,hm⟩;(conv=>whnf);refine zC (fun _=>zu ?_) (fun _=>zu ?_)
 ·have hk4:k<4:=by omega
  refine Wit.eq (y:=encT ((gQ q).at k)) (qo8 (gQ q) k hk4) ?_;rw [q5m q hk4];(conv=>whnf);refine znm hm fun b8 w5 hm=>zw ?_;refine StoreA.all (vs:=encT (gat q k)) hm (i:=0) rfl rfl (qq _) fun w6 hm=>zw ?_;refine zl hm 0 ?_;refine zcv (q7e T h hr hk he b (gat q k) (hq k hk4) (by rw [← q5m q hk4];have:=hqo;rcases (show k=0∨k=1∨k=2∨k=3 by omega) with rfl|rfl|rfl|rfl;exact this 3;exact this 0;exact this 1;exact this 2) w6 (hV.ext hm.ext) (hM.ext hm.ext) (hT.ext hm.ext)) ?_;rintro r w7 ⟨rfl,he7⟩;have hm:=hm.call he7;refine zu ?_;rw [show 0+k*tsz Tryz.prog 3=k by rw [show tsz Tryz.prog 3=1 from by kernel_rfl];omega];refine StoreV.mem hm (i:=1) rfl (by rw [qn];omega) rfl ?_;clear hm;intro w8 hm;have hm:Mem w w8 [(b8,.cells (encT (gat q k)).toArray 24),(b6,.cells ((fnA 4 (inF (idF T q k))).setIfInBounds k (ii (noT T (gat q k):Nat))) 101),(b4,.cells #[ii 0,ii 0,ii 0,ii 0] 101),(b3,.cells (q7 q).toArray 26)]:=hm;rw [qyj T q hk4] at hm;refine zu ?_;exact ⟨k+1,⟨rfl,rfl,rfl,rfl,congrArg (Value.int .i64) Oo,trivial⟩,⟨by omega,hm.sub (List.sublist_cons_self ..)⟩,by omega⟩
 ·refine zl hm 0 ?_;refine zS hm 1 fun w8 hm=>zw ?_;obtain rfl:k=4:=by omega
  refine qaa (R:=fun v w'=>v=.tuple #[idsV fun k=>noT T (gat q k),.bool true]∧Ext w w') (zw ?_);refine zl hm 1 ?_;exact ⟨rfl,hm.ext⟩
def bufO (v:Value) (m:Nat) (f:Bool):Obj:=.cells #[v,ii m,.bool f] 198
structure BufAt (w:World) (b m:Nat) (l:LB) (F:List Nat):Prop where
 h:∃ A c xs f,w.heap[b]?=some (bufO (.slice A xs.length c) m f)∧w.ownsRow 0 5 1 (.slice A xs.length c) xs.length (byV xs)∧b∉rowF (.slice A xs.length c)∧xs.length≤m∧f=decide (m<l.length)∧(f=false→xs=l)∧F=b::rowF (.slice A xs.length c)
theorem BufAt.lt {w:World} {b m:Nat} {l:LB} {F:List Nat} (h:BufAt w b m l F):∀ k∈F,k<w.heap.size:=by
 obtain ⟨A,c,xs,f,hb,ho,_,_,_,_,rfl⟩:=h.h;intro k hk
 rcases List.mem_cons.1 hk with rfl|hk
 ·exact qa5 hb
 ·exact (qfl ho k hk).2
theorem BufAt.keep {w w':World} {b m:Nat} {l:LB} {F:List Nat} (h:BufAt w b m l F) (hk:∀ k∈F,w'.heap[k]?=w.heap[k]?):BufAt w' b m l F:=by
 obtain ⟨A,c,xs,f,hb,ho,h1,h2,h3,h4,rfl⟩:=h.h;exact ⟨A,c,xs,f,by rw [hk b mh];exact hb,qo ho fun k h=>hk k (zmc h),h1,h2,h3,h4,rfl⟩
theorem BufAt.call {w w':World} {b m:Nat} {l:LB} {F:List Nat} (h:BufAt w b m l F) (he:Ext w w'):BufAt w' b m l F:=
 h.keep fun k hk=>he.block k (h.lt k hk)
structure BufC (w w':World) (b m:Nat) (l:LB) (F:List Nat):Prop where
 chg:Chn F w w'
 h:∃ F',BufAt w' b m l F'∧∀ k∈F',(k∈F∨w.heap.size≤k)∧k<w'.heap.size
theorem BufC.back {w0 w w':World} {b m:Nat} {l:LB} {F:List Nat} (h:BufC w w' b m l F) (he:Ext w0 w):BufC w0 w' b m l F:=by
 obtain ⟨F',h1,h2⟩:=h.h;exact ⟨(Chn.of F he).trans h.chg,F',h1,fun k hk=>⟨(h2 k hk).1.imp id fun g=>Nat.le_trans he.size g,(h2 k hk).2⟩⟩
theorem qe1 (m:Int) (w:World) :
  Gv Tryz.prog 59 [ii m] w fun r w'=>∃ b,r=pp b∧Ext w w'∧w.heap.size≤b∧BufAt w' b (max m 0).toNat [] [b]:=by
 refine ze Tryz.func59 Tryz.ntmps59 ?_;refine V.Fall.max2 rfl rfl rfl fun k hk=>?_;have hk2:k=((max m 0).toNat:Nat):=by omega
 subst hk2;(conv=>whnf);refine ⟨fun b w' hb hw=>?_⟩;subst hb hw;(conv=>whnf);refine ⟨w.heap.size,rfl,(Ext.refl w).alloc _,Nat.le_refl _,⟨none,0,[],false,heap_alloc_new w _,World.ownsRow_nil _ _ _ _,by simp [rowF,Value.ownBlock],Nat.zero_le _,?_,fun _=>rfl,by simp [rowF,Value.ownBlock]⟩⟩;rw [eq_comm,decide_eq_false_iff_not];simp
theorem qcu (b m:Nat) (l x:LB) (F:List Nat) (B:oA) (n d:Nat) (w:World) (h:BufAt w b m l F) (hS:SlAt encB 1 w B x) (hn:x.length=n) (hm:m≤9223372036854775807) (hl:l.length+x.length≤8000000000000) :
  Gv Tryz.prog 63 [pp b,.slice B n d] w fun r w'=>r=.tuple #[]∧BufC w w' b m (l++x) F:=by
 subst hn;obtain ⟨A,c,xs,f,hb,ho,hnb,hxm,hf,hxl,rfl⟩:=h.h;have he:Ext w w.drew:=(Ext.refl w).drew;have hb1:=he.get hb;have ho1:w.drew.ownsRow 0 5 1 (.slice A xs.length c) xs.length (byV xs):=qo ho fun k hk=>he.block k (qfl ho k hk).2
 have hS1:=hS.ext he;have hlt:=qa5 hb;have hFl:∀ k∈b::rowF (.slice A xs.length c),(k∈b::rowF (.slice A xs.length c)∨w.heap.size≤k)∧k<w.heap.size:=fun k hk=>⟨.inl hk,h.lt k hk⟩
 have hll:(l++x).length=l.length+x.length:=zla;cases f with
 | true=>
  have hf:m<l.length:=of_decide_eq_true hf.symm;refine ze Tryz.func63 Tryz.ntmps63 ?_;refine zy ?_;refine zv ?_;refine LoadV.own hb rfl (zu ?_);refine LoadV.own hb rfl (zw ?_);refine zt ?_;refine zC (fun _=>zw ?_) (fun _=>zw ?_)
  ·refine StoreV.own hb1 (show 2<3 by decide) rfl ?_;intro w2 hw;obtain ⟨hc2,hb2⟩:=Chn.set hb1 hw;(conv=>whnf);refine LoadV.own hb2 rfl (zu ?_);have hs:=(he.size:w.heap.size≤w.drew.heap.size)
   have hk:∀ k∈rowF (.slice A xs.length c),w2.heap[k]?=w.drew.heap[k]?:=fun k hk=>hc2.block k (qfl ho1 k hk).2 fun g=>hnb (by rw [← List.mem_singleton.1 g];exact hk)
   refine ⟨rfl,(Chn.of _ he).trans (hc2.mono fun k hk=>by rw [List.mem_singleton.1 hk];exact List.mem_cons_self ..),_,⟨A,c,xs,true,hb2,qo ho1 hk,hnb,hxm,?_,(fun g=>(by cases g)),rfl⟩,fun k hk=>⟨.inl hk,Nat.lt_of_lt_of_le (hFl k hk).2 (Nat.le_trans hs hc2.size)⟩⟩;rw [eq_comm,decide_eq_true_iff];omega
  ·refine LoadV.own hb1 rfl (zu ?_);refine ⟨rfl,Chn.of _ he,_,⟨A,c,xs,true,hb1,ho1,hnb,hxm,?_,(fun g=>(by cases g)),rfl⟩,fun k hk=>⟨.inl hk,Nat.lt_of_lt_of_le (hFl k hk).2 he.size⟩⟩;rw [eq_comm,decide_eq_true_iff];omega
 | false=>
  have hf:¬ m<l.length:=of_decide_eq_false hf.symm;obtain rfl:=hxl rfl;refine ze Tryz.func63 Tryz.ntmps63 ?_;refine zy ?_;refine zv ?_;refine LoadV.own hb rfl (zu ?_);refine LoadV.own hb rfl (zw ?_);refine zt ?_;refine zC (fun _=>zw ?_) (fun _=>zw ?_)
  ·refine StoreV.own hb1 (show 2<3 by decide) rfl ?_;intro w2 hw;obtain ⟨hc2,hb2⟩:=Chn.set hb1 hw;(conv=>whnf);refine LoadV.own hb2 rfl (zu ?_);have hs:=(he.size:w.heap.size≤w.drew.heap.size)
   have hk:∀ k∈rowF (.slice A xs.length c),w2.heap[k]?=w.drew.heap[k]?:=fun k hk=>hc2.block k (qfl ho1 k hk).2 fun g=>hnb (by rw [← List.mem_singleton.1 g];exact hk)
   refine ⟨rfl,(Chn.of _ he).trans (hc2.mono fun k hk=>by rw [List.mem_singleton.1 hk];exact List.mem_cons_self ..),_,⟨A,c,xs,true,hb2,qo ho1 hk,hnb,hxm,?_,(fun g=>(by cases g)),rfl⟩,fun k hk=>⟨.inl hk,Nat.lt_of_lt_of_le (hFl k hk).2 (Nat.le_trans hs hc2.size)⟩⟩;rw [eq_comm,decide_eq_true_iff];omega
  ·refine LoadV.own hb1 rfl (zu ?_);refine LoadV.own hb1 rfl (zw ?_);refine AppV.bys qbf bytI bytZ Ok rfl (by decide +kernel) ho1 hS1 hl ?_;intro A' c' w2 ho2 hc2 hn2;have hb2:=hc2.block b (Nat.lt_of_lt_of_le hlt he.size) hnb;rw [hb1] at hb2;(conv=>whnf);refine StoreV.own hb2 (show 0<3 by decide) rfl ?_;intro w3 hw;obtain ⟨hc3,hb3⟩:=Chn.set hb2 hw;(conv=>whnf);have hnb':b∉rowF (.slice A' (xs.length+x.length) c'):=fun g=>by
    rcases (hn2 b g).1 with g|g
    ·exact hnb g
    ·have:=he.size;omega
   have ho3:=qo ho2 (w':=w3) fun k hk=>hc3.block k (hn2 k hk).2 fun g=>hnb' (by rw [← List.mem_singleton.1 g];exact hk)
   refine ⟨rfl,((Chn.of _ he).trans (hc2.mono fun k hk=>zmc hk)).trans (hc3.mono fun k hk=>by rw [List.mem_singleton.1 hk];exact List.mem_cons_self ..),b::rowF (.slice A' (xs.length+x.length) c'),⟨A',c',xs++x,false,?_,?_,?_,by rw [hll];omega,?_,fun _=>rfl,?_⟩,fun k hk=>?_⟩
   ·rw [hll];exact hb3
   ·rw [hll] at ho3 ⊢;exact ho3
   ·rw [hll];exact hnb'
   ·rw [eq_comm,decide_eq_false_iff_not];omega
   ·rw [hll]
   ·have hs3:=hc3.size;have hs2:=hc2.size;have hs1:=he.size
    rcases List.mem_cons.1 hk with rfl|hk
    ·exact ⟨.inl mh,by omega⟩
    ·obtain ⟨g1,g2⟩:=hn2 k hk;exact ⟨g1.imp (zmc) fun g=>by omega,by omega⟩
theorem q8q {w:World} {nb:Nat} {x:Nat} {t:TypeId} (hx:x<256) (h:w.heap[nb]?=some (.cells #[.int .u8 x] t)):SlAt encB 1 w (some ⟨nb,0,none⟩) [UInt8.ofNat x]:=by
 refine ⟨fun _=>⟨nb,0,rfl,fun j y hy k v hv=>?_⟩⟩;cases j with
 | succ j=>cases hy
 | zero=>
  cases hy;cases k with
  | succ k=>simp [encB] at hv
  | zero=>
   simp only [encB,List.getElem?_cons_zero,Option.some.injEq] at hv;rw [qa h,← hv,qak hx];rfl
theorem q1r (b m:Nat) (l:LB) (x:Nat) (F:List Nat) (w:World) (h:BufAt w b m l F) (hx:x<256) (hm:m≤9223372036854775807) (hl:l.length+1≤8000000000000) :
  Gv Tryz.prog 108 [pp b,.int .u8 x] w fun r w'=>r=.tuple #[]∧BufC w w' b m (l++[UInt8.ofNat x]) F:=by
 refine ze Tryz.func108 Tryz.ntmps108 ?_;refine ⟨fun nb w1 hnb hw=>?_⟩;have he:Ext w w1:=by rw [hw];exact (Ext.refl w).alloc _
 have hc:w1.heap[nb]?=some (.cells #[.int .u8 x] 5):=by rw [hw,hnb];exact heap_alloc_new w _
 (conv=>whnf);refine zcv (qcu b m l [UInt8.ofNat x] F (some ⟨nb,0,none⟩) 1 1 w1 (h.call he) (q8q hx hc) rfl hm hl) ?_;rintro r w2 ⟨rfl,hB⟩;(conv=>whnf);exact ⟨rfl,hB.back he⟩
theorem q89:∀ x,x<256→x |||128=x%128+128:=by decide +kernel
theorem qkv (n:Nat):qdd .or .u8 ((n%256:Nat):Int) 128=((n%128+128:Nat):Int):=by
 have e:=q89 (n%256) (Nat.mod_lt _ Od);have e2:n%256%128=n%128:=by omega
 rw [show (128:Int)=((128:Nat):Int) from rfl,qqe (qd8 (Nat.mod_lt _ Od)) (qd8 Od) (qd8 (by rw [e];omega)),e,e2]
theorem q8o {w0 w:World} {A:oA} {n c:Nat} {e:TypeId} {zs:LB} {L:List (Nat × Obj)} (h:Rw w0 w (.slice A n c) e 1 n (byV zs) L) (hn:zs.length=n):SlAt encB 1 w A zs:=by
 obtain ⟨A',c',e1,_,h2⟩:=Rw.byts h hn;cases e1;exact h2
theorem qbn (b m:Nat) (l:LB) (n:Nat) (F:List Nat) (w:World) (h:BufAt w b m l F) (hn:n<18446744073709551616) (hm:m≤9223372036854775807) (hl:l.length+16≤8000000000000) :
  Gv Tryz.prog 99 [pp b,.int .u64 n] w fun r w'=>r=.tuple #[]∧BufC w w' b m (l++varL n) F:=by
 have hv:=qac 9 n (Nat.lt_of_lt_of_le hn Od);refine ze Tryz.func99 Tryz.ntmps99 ?_;refine qe (fun x:oA × Nat × LB × Nat=>[(0,pp b),(1,.int .u64 x.2.2.2),(4,.slice x.1 x.2.2.1.length x.2.1)])
  (fun x w2=>x.2.2.2<18446744073709551616∧varL n=x.2.2.1++varL x.2.2.2∧Rw w w2 (.slice x.1 x.2.2.1.length x.2.1) 5 1 x.2.2.1.length (byV x.2.2.1) []) (fun x=>x.2.2.2) (none,0,[],n) ⟨rfl,rfl,rfl,trivial⟩ ⟨hn,rfl,Rw.nil (Mem.nil w)⟩ ?_
 rintro ⟨A,c,ys,k⟩ w2 ρ' ⟨h1,h2,hR⟩;dsimp only at h1 h2 hR ⊢;have hp:=qup k;have hyl:ys.length+(varL k).length≤10:=by have:=congrArg List.length h2;rw [zla] at this;omega
 (conv=>whnf);refine zC (fun _=>zu ?_) (fun _=>zu ?_)
 ·refine V.Wit.low8 (zw ?_);refine Wit.eq (qkv k) (zw ?_);refine NewV.rw hR fun nb w4 hR4=>zw ?_;refine AppV.one qbf bytI bytZ Ok rfl (by decide +kernel) hR4 rfl Oo ?_;intro B' d' w5 hR5;(conv=>whnf);refine V.Wit.shrN 7 rfl Od (zw ?_);have hk:128≤k:=by omega
  have e:(ys++[UInt8.ofNat (k%128+128)]).length=ys.length+1:=by simp
  refine ⟨(B',d',ys++[UInt8.ofNat (k%128+128)],k/128),⟨rfl,rfl,by show Value.slice _ _ _=_;rw [e],trivial⟩,⟨by simp only;omega,?_,?_⟩,by simp only;omega⟩
  ·rw [h2,qdn hk,List.append_assoc];rfl
  ·show Rw w w5 (.slice B' (ys++[UInt8.ofNat (k%128+128)]).length d') _ 1 _ _ _;rw [e,byV,List.map_append,List.map_cons,List.map_nil,qak Oo];exact hR5
 ·have hk:k<128:=by omega
  refine NewV.rw hR fun nb w4 hR4=>zw ?_;refine AppV.one qbf bytI bytZ Ok rfl (by decide +kernel) hR4 rfl Oo ?_;intro B' d' w5 hR5;have e:(ys++[UInt8.ofNat k]).length=ys.length+1:=by simp
  have hR6:Rw w w5 (.slice B' (ys.length+1) d') 5 1 (ys.length+1) (byV (ys++[UInt8.ofNat k])) []:=by
   rw [byV,List.map_append,List.map_cons,List.map_nil,qak Oo];exact hR5
  have e2:varL n=ys++[UInt8.ofNat k]:=by rw [h2,qco hk]
  (conv=>whnf);refine zcv (qcu b m l (varL n) F B' (ys.length+1) d' w5 (h.call hR6.mem.ext) (by rw [e2];exact q8o hR6 e) (by rw [e2,e]) hm Oo) ?_;rintro r w6 ⟨rfl,hB⟩;(conv=>whnf);exact ⟨rfl,hB.back hR6.mem.ext⟩
theorem qku (b m:Nat) (l:LB) (n:Nat) (F:List Nat) (w:World) (h:BufAt w b m l F) (_:n<18446744073709551616) (hm:m≤9223372036854775807) (hl:l.length+16≤8000000000000) :
  Gv Tryz.prog 61 [pp b,.int .u64 n,ii 4] w fun r w'=>r=.tuple #[]∧BufC w w' b m (l++fixL n 4) F:=by
 refine ze Tryz.func61 Tryz.ntmps61 ?_;refine zcv (qvq w) ?_;rintro r w1 ⟨rfl,rfl⟩;(conv=>whnf);refine qe (fun x:Nat × oA × Nat=>[(0,pp b),(1,.int .u64 n),(6,.slice x.2.1 x.1 x.2.2),(9,ii 4),(10,ii x.1)])
  (fun x w2=>x.1≤4∧Rw w1 w2 (.slice x.2.1 x.1 x.2.2) 5 1 x.1 (byV (fixL n x.1)) []) (fun x=>4-x.1) (0,none,0) ⟨rfl,rfl,rfl,rfl,rfl,trivial⟩ ⟨by simp,Rw.nil (Mem.nil w1)⟩ ?_
 rintro ⟨i,A,c⟩ w2 ρ' ⟨h1,hR⟩;dsimp only at h1 hR ⊢;(conv=>whnf);refine zC (fun _=>zu ?_) (fun _=>zu ?_)
 ·refine V.Wit.shrN (8*i) Oo (by show 8*i<64;omega) (zw ?_);refine V.Wit.low8 (zw ?_);refine NewV.rw hR fun nb w4 hR4=>zw ?_;refine AppV.one qbf bytI bytZ Ok rfl (by decide +kernel) hR4 rfl Oo ?_;intro B' d' w5 hR5;refine zu ?_;refine ⟨(i+1,B',d'),⟨rfl,rfl,rfl,rfl,rfl,trivial⟩,⟨by simp only;omega,?_⟩,by simp only;omega⟩;simp only [fixL,byV,List.map_append,List.map_cons,List.map_nil];have e:(UInt8.ofNat (n/2 ^ (8*i)%256)).toNat=n/2 ^ (8*i)%256:=by simp
  rw [e];exact hR5
 ·obtain rfl:i=4:=by omega
  refine zcv (qcu b m l (fixL n 4) F A 4 c w2 (h.call hR.mem.ext) (q8o hR (qf n 4)) (qf n 4) hm (by rw [qf];omega)) ?_;rintro r w6 ⟨rfl,hB⟩;(conv=>whnf);exact ⟨rfl,hB.back hR.mem.ext⟩
theorem q1o (b m:Nat) (l:LB) (F:List Nat) (w:World) (h:BufAt w b m l F) :
  Gv Tryz.prog 152 [pp b] w fun r w'=>(∃ k:Nat,r=ii k∧k≤m∧(l.length≤m→k=l.length))∧w'=w:=by
 obtain ⟨A,c,xs,f,hb,ho,hnb,hxm,hf,hxl,rfl⟩:=h.h;refine ze Tryz.func152 Tryz.ntmps152 ?_;refine LoadV.own hb rfl (zw ?_);refine ⟨⟨xs.length,rfl,hxm,fun g=>?_⟩,rfl⟩;rw [hxl (by rw [hf];exact decide_eq_false Oo)]
theorem qu4 (l:LB) (A:oA) (n c:Nat) (w:World) (hS:SlAt encB 1 w A l) (hn:l.length=n) (hl:l.length≤8000000000000) :
  Gv Tryz.prog 112 [.slice A n c] w fun r w'=>∃ A' c',r=.slice A' l.length c'∧Ext w w'∧w'.ownsRow w.heap.size 5 1 (.slice A' l.length c') l.length (byV l):=by
 subst hn;cases A with
 | none=>
  have h0:l=[]:=by
   cases l with
   | nil=>rfl
   | cons x r=>obtain ⟨b,off,h0,_⟩:=hS.at_ Js;cases h0
  subst h0;refine ze Tryz.func112 Tryz.ntmps112 ?_;refine zv ?_;exact ⟨none,0,rfl,Ext.refl w,World.ownsRow_nil _ _ _ _⟩
 | some a=>
  refine ze Tryz.func112 Tryz.ntmps112 ?_;refine zv ?_;refine ⟨fun nb w1 hnb hw=>?_⟩;have he:Ext w w1:=by rw [hw];exact (Ext.refl w).alloc _
  have hc:w1.heap[nb]?=some (.cells #[] 5):=by rw [hw,hnb];exact heap_alloc_new w _
  have ho:w1.ownsRow w.heap.size 5 1 (.slice (some ⟨nb,0,none⟩) 0 0) 0 []:=⟨rfl,.inr ⟨nb,0,#[],rfl,by omega,hc,Nat.le_refl _,Nat.zero_le _,rfl,rfl⟩⟩
  (conv=>whnf);refine AppV.own (news:=byV l) qbf bytI bytZ Ok rfl Od ho he.size (by rw [qae];exact (Nat.mul_one _).symm) (qin (hS.ext he)) (fun u hu=>?_) (Nat.le_trans (Nat.mul_le_mul (by rw [Nat.zero_add];exact hl) (show _≤16 by decide +kernel)) Od) Oo ?_
  ·simp only [byV,List.mem_map] at hu;obtain ⟨v,_,rfl⟩:=hu;rfl
  ·intro v' w2 ho2 hg _;have ho2:w2.ownsRow w.heap.size 5 1 v' l.length (byV l):=by rw [Nat.zero_add] at ho2;exact ho2
   obtain ⟨A',c',rfl⟩:=q8 ho2;(conv=>whnf);refine ⟨A',c',rfl,(Chn.grown hg).ext he fun k hk=>?_,ho2⟩;rw [List.mem_singleton.1 hk,hnb];exact Nat.le_refl _
theorem qw9 (A:oA) (n c:Nat) (hc:n≤c) (hA:A=none∨∃ g o,A=some ⟨g,o,none⟩) (w:World):Gv Tryz.prog 111 [.slice A n c] w fun v w'=>v=.slice A n n∧w'=w:=by
 refine ze Tryz.func111 Tryz.ntmps111 ?_;refine ⟨0,n,n,rfl,rfl,rfl,Nat.zero_le _,Nat.le_refl _,hc,fun _=>rfl,fun A' e=>?_⟩;have e2:A'=A:=by
  rw [e]
  split
  ·rfl
  ·rcases hA with rfl|⟨g,o,rfl⟩
   ·rfl
   ·simp [Addr.add]
 subst e2;(conv=>whnf);exact ⟨rfl,rfl⟩
theorem qcm (b m:Nat) (l:LB) (F:List Nat) (w:World) (h:BufAt w b m l F) (hl:l.length≤8000000000000) :
  Gv Tryz.prog 62 [pp b] w fun r w'=>(m<l.length∧r=.tuple #[.slice none 0 0,ii 1]∧w'=w)∨(l.length≤m∧∃ v,r=.tuple #[v,ii 0]∧NewS 5 w w' v l):=by
 obtain ⟨A,c,xs,f,hb,ho,hnb,hxm,hf,hxl,rfl⟩:=h.h;cases f with
 | true=>
  refine ze Tryz.func62 Tryz.ntmps62 ?_;refine LoadV.own hb rfl (zu ?_);exact .inl ⟨of_decide_eq_true hf.symm,rfl,rfl⟩
 | false=>
  have hf:¬ m<l.length:=of_decide_eq_false hf.symm;obtain rfl:=hxl rfl;have hS:SlAt encB 1 w A xs:=by
   obtain ⟨A',c',e1,_,h2⟩:=qd2 ho;cases e1;exact h2
  refine ze Tryz.func62 Tryz.ntmps62 ?_;refine LoadV.own hb rfl (zu ?_);refine LoadV.own hb rfl (zw ?_);refine zcv (qu4 xs A _ c w hS rfl hl) ?_;rintro r w1 ⟨A',c',rfl,he,ho1⟩;have hc:xs.length≤c'∧(A'=none∨∃ g o,A'=some ⟨g,o,none⟩):=by
   rcases ho1.2 with ⟨e1,e2⟩|⟨g,cap,cur,e1,_,_,h3,_⟩
   ·injection e1 with a1 a2 a3;exact ⟨by omega,.inl a1⟩
   ·injection e1 with a1 a2 a3;exact ⟨by omega,.inr ⟨g,0,a1⟩⟩
  (conv=>whnf);refine zcv (qw9 A' xs.length c' hc.1 hc.2 w1) ?_;rintro r w2 ⟨rfl,rfl⟩;(conv=>whnf);exact .inr ⟨by omega,_,rfl,NewS.of he ho1 _ znr hc.1⟩
namespace V
theorem AppV.strR {P:Program} {e:TypeId} {w:World} {v:Value} {x:LB} {t u ty:TypeId} {i:TypeInfo} {s:ByteArray} {K:Value→World→Prop} (ht:P.underlying t=some (.slice e)) (hu:P.underlying u=some .string) (hi:P.info? e=some i) (hz:i.zero=some (.int .u8 0))
  (hsize:i.size=1) (hby:i.bytes=1) (h:w.ownsRow 0 e 1 v x.length (byV x)) (hlen:x.length+s.size≤140737488355328)
  (hk:∀ A' c' w',w'.ownsRow 0 e 1 (.slice A' (x.length+s.size) c') (x++s.data.toList).length (byV (x++s.data.toList))→Chn (rowF v) w w'→(∀ k∈rowF (.slice A' (x.length+s.size) c'),(k∈rowF v∨w.heap.size≤k)∧k<w'.heap.size)→K (.slice A' (x.length+s.size) c') w') :
  AppV P #[t,u] ty v (.string s) w K:=by
 have key:∃ v' w',(Builtin.append_ #[t,u] ty #[v,.string s]).run P w=.ok v' w'∧w'.ownsRow 0 e 1 v' (x.length+s.size) (byV x++Lib.strCells s)∧w.grownBy w' v.ownBlock∧∀ k∈rowF v',k∈rowF v∨w.heap.size≤k:=by
  rcases h.2 with ⟨rfl,h0⟩|⟨g,cap,cur,rfl,hbg,hg,hnc,hcm,hcs,htake⟩
  ·have ho:w.ownsRow w.heap.size e 1 (.slice none 0 0) x.length (byV x):=⟨h.1,.inl ⟨rfl,h0⟩⟩
   obtain ⟨v',w',h1,h2,h3,_⟩:=Lib.run_append_own_string (P:=P) w w.heap.size t u ty e i ht hu hi hz hsize hby _ _ _ ho s (by simp only [maxLen];omega) hlen znr;exact ⟨v',w',h1,q2w h2,h3,fun k hk=>.inr (qfl h2 k hk).1⟩
  ·obtain ⟨v',w',h1,h2,h3,_⟩:=Lib.run_append_own_string (P:=P) w 0 t u ty e i ht hu hi hz hsize hby _ _ _ h s (by simp only [maxLen];omega) hlen (Nat.zero_le _);refine ⟨v',w',h1,h2,h3,?_⟩
   by_cases hroom:x.length+s.size≤cap
   ·have hr:=Lib.run_append_room_string (P:=P) w t u ty e i ht hu hi hsize g x.length cap cur hg s hroom Oo;rw [hr] at h1;cases h1;exact fun k hk=>.inl hk
   ·have hr:=Lib.run_append_grow_string (P:=P) w t u ty e i (.int .u8 0) ht hu hi hz ⟨g,0,none⟩ x.length cap (byV x) (by rw [hsize,qae,Nat.mul_one]) (fun j u hu=>h.cells (g:=g) rfl j u hu) s Oo Oo (by rw [hby];exact growslice_fits Oo Oo);rw [hr] at h1;cases h1;exact fun k hk=>.inr (by rw [List.mem_singleton.1 hk];exact Nat.le_refl _)
 obtain ⟨v',w',h1,h2,h3,h4⟩:=key;obtain ⟨A',c',rfl⟩:=q8 h2;refine ⟨_,w',h1,hk A' c' w' ?_ (Chn.grown h3) fun k hk=>⟨h4 k hk,(qfl h2 k hk).2⟩⟩;rw [byV,List.map_append,zla];exact h2
structure RowC (e:TypeId) (w w':World) (v r:Value) (y:LB):Prop where
 own:∃ A c,r=.slice A y.length c
 row:w'.ownsRow 0 e 1 r y.length (byV y)
 chg:Chn (rowF v) w w'
 new:∀ k∈rowF r,(k∈rowF v∨w.heap.size≤k)∧k<w'.heap.size
theorem RowC.trans {e:TypeId} {w w1 w':World} {v u r:Value} {y z:LB} (h:RowC e w w1 v u y) (g:RowC e w1 w' u r z):RowC e w w' v r z:=
 ⟨g.own,g.row,h.chg.trans' g.chg fun k hk=>(h.new k hk).1,fun k hk=>⟨(g.new k hk).1.elim (fun g1=>(h.new k g1).1) fun g1=>.inr (Nat.le_trans h.chg.size g1),(g.new k hk).2⟩⟩
theorem RowC.back {e:TypeId} {w0 w w':World} {v r:Value} {y:LB} (h:RowC e w w' v r y) (he:Ext w0 w):RowC e w0 w' v r y:=
 ⟨h.own,h.row,(Chn.of _ he).trans h.chg,fun k hk=>⟨(h.new k hk).1.imp id fun g=>Nat.le_trans he.size g,(h.new k hk).2⟩⟩
theorem q9 {w w':World} {base size n:Nat} {e:TypeId} {v:Value} {xs:List Value} (h:w.ownsRow base e size v n xs) (he:Ext w w'):w'.ownsRow base e size v n xs:=
 qo h fun k hk=>he.block k (qfl h k hk).2
end V
namespace V
structure SepC (w0 w w':World) (Fs:List (List Nat)) (i:Nat) (F':List Nat):Prop where
 sep:Sep w0 w' (Fs.set i F')
 size:w.heap.size≤w'.heap.size
 keep:∀ (j:Nat) (G:List Nat),Fs[j]?=some G→j≠i→∀ k∈G,w'.heap[k]?=w.heap[k]?
theorem Sep.row {w0 w w':World} {Fs:List (List Nat)} (h:Sep w0 w Fs) {i:Nat} {F F':List Nat} (hi:Fs[i]?=some F) (hc:Chn F w w') (hn:∀ k∈F',(k∈F∨w.heap.size≤k)∧k<w'.heap.size):SepC w0 w w' Fs i F':=
 ⟨h.chg hi hc hn,hc.size,fun _ _ hj hji=>h.keep hi hc hj (fun e=>hji e.symm)⟩
theorem Sep.buf {w0 w w':World} {Fs:List (List Nat)} (h:Sep w0 w Fs) {i b m:Nat} {F:List Nat} {l:LB} (hi:Fs[i]?=some F) (hB:BufC w w' b m l F):∃ F',SepC w0 w w' Fs i F'∧BufAt w' b m l F':=by
 obtain ⟨F',h1,h2⟩:=hB.h;exact ⟨F',h.row hi hB.chg h2,h1⟩
theorem AppV.cell {P:Program} {e nb:Nat} {w:World} {v x:Value} {n:Nat} {xs:List Value} {t ty e2:TypeId} {fr:Nat × Nat} {i:TypeInfo} {z:Value} {K:Value→World→Prop} (ht:P.underlying t=some (.slice e)) (hi:P.info? e=some i) (hz:i.zero=some z)
  (hsize:i.size=1) (hzs:z.cells.size=1) (hby:i.bytes≤16) (h:w.ownsRow 0 e 1 v n xs) (hb:w.heap[nb]?=some (.cells #[x] e2 fr)) (hx:x.oneCell'=true) (hn:n+1≤8000000000000)
  (hk:∀ A' c' w',w'.ownsRow 0 e 1 (.slice A' (n+1) c') (n+1) (xs++[x])→Chn (rowF v) w w'→(∀ k∈rowF (.slice A' (n+1) c'),(k∈rowF v∨w.heap.size≤k)∧k<w'.heap.size)→K (.slice A' (n+1) c') w'):AppV P #[t,t] ty v (.slice (some ⟨nb,0,none⟩) 1 1) w K:=by
 refine AppV.row (news:=[x]) ht hi hz hsize hzs Od h rfl (fun _=>⟨nb,0,rfl,fun k v hv=>?_⟩) (fun u hu=>by simp at hu;rw [hu];exact hx) (Nat.le_trans (Nat.mul_le_mul hn hby) Od) Oo hk;rw [qa hb,Nat.zero_add]
 simpa using hv
theorem NewBytesV.sl {s:ByteArray} {e:TypeId} {w:World} {K:Value→World→Prop}
  (hk:∀ b cap w',s.size≤cap→Ext w w'→SlAt encB 1 w' (some ⟨b,0,none⟩) s.data.toList→K (.slice (some ⟨b,0,none⟩) s.size cap) w'):NewBytesV s e w K:=by
 refine ⟨fun cap cs b w' hc hcs hb hw=>hk b cap w' hc ?_ ⟨fun hn=>⟨b,0,rfl,fun j x hx k v hv=>?_⟩⟩⟩
 ·rw [hw];exact ((Ext.refl w).drew).alloc _
 ·cases k with
  | succ k=>simp [encB] at hv
  | zero=>
   simp only [encB,List.getElem?_cons_zero,Option.some.injEq] at hv;subst hv;have hg:w'.heap[b]?=some (.cells cs e (cs.size,cs.size+1)):=by rw [hw,hb];exact heap_alloc_new w.drew _
   rw [qa hg,hcs];have hj:=(List.getElem?_eq_some_iff.1 hx).1;have:(byteCells s.data.toList)[j]?=some (.int .u8 x.toNat):=by rw [byteCells,List.getElem?_map,hx];rfl
   rw [Nat.zero_add,Nat.mul_one,Nat.add_zero,List.getElem?_toArray,List.getElem?_append_left (by simpa [byteCells] using hj)];exact this
structure BufS (w0 w:World) (b m:Nat) (l:LB):Prop where
 h:∃ F,Sep w0 w [F]∧BufAt w b m l F
theorem BufS.ext {w0 w:World} {b m:Nat} {l:LB} (h:BufS w0 w b m l):Ext w0 w:=h.h.elim fun _ h=>h.1.ext
theorem BufS.new {w0 w w':World} {b m:Nat} (h0:Ext w0 w) (he:Ext w w') (hb:w.heap.size≤b) (h:BufAt w' b m [] [b]):BufS w0 w' b m []:=
 ⟨[b],(Sep.of h0).add he fun k hk=>by rw [List.mem_singleton.1 hk];exact ⟨hb,h.lt b (List.mem_singleton.2 rfl)⟩,h⟩
theorem BufS.step {w0 w:World} {b m:Nat} {l:LB} (h:BufS w0 w b m l) {P:Program} {f:FuncId} {args:List Value} {l':LB} (hc:∀ F,BufAt w b m l F→Gv P f args w fun r w'=>r=.tuple #[]∧BufC w w' b m l' F) :
  Gv P f args w fun r w'=>r=.tuple #[]∧BufS w0 w' b m l':=by
 obtain ⟨F,h1,h2⟩:=h.h;refine (hc F h2).mono ?_;rintro r w' ⟨e,hB⟩;obtain ⟨F',h3,h4⟩:=h1.buf (i:=0) rfl hB;exact ⟨e,F',h3.sep,h4⟩
end V
theorem qxf {f:Nat→Nat} {b r:Nat} (hr:r≤8) (h:∀ s,r≤s→s<8→f (8*b+s)%2=0):byt f b<2 ^ r:=by
 have k0:r≤0→f (8*b)%2=0:=fun g=>h 0 g Od
 have k1:r≤1→f (8*b+1)%2=0:=fun g=>h 1 g Od
 have k2:r≤2→f (8*b+2)%2=0:=fun g=>h 2 g Od
 have k3:r≤3→f (8*b+3)%2=0:=fun g=>h 3 g Od
 have k4:r≤4→f (8*b+4)%2=0:=fun g=>h 4 g Od
 have k5:r≤5→f (8*b+5)%2=0:=fun g=>h 5 g Od
 have k6:r≤6→f (8*b+6)%2=0:=fun g=>h 6 g Od
 have k7:r≤7→f (8*b+7)%2=0:=fun g=>h 7 g Od
 unfold byt
 rcases (show r=0∨r=1∨r=2∨r=3∨r=4∨r=5∨r=6∨r=7∨r=8 by omega) with rfl|rfl|rfl|rfl|rfl|rfl|rfl|rfl|rfl<;>omega
theorem qst {f g:Nat→Nat} {b r:Nat} (hr:r<8) (h:∀ s,s<8→s≠r→f (8*b+s)%2=g (8*b+s)%2) (h0:f (8*b+r)%2=0):byt g b=byt f b+g (8*b+r)%2*2 ^ r:=by
 have k0:0≠r→f (8*b)%2=g (8*b)%2:=fun e=>h 0 Od e
 have k1:1≠r→f (8*b+1)%2=g (8*b+1)%2:=fun e=>h 1 Od e
 have k2:2≠r→f (8*b+2)%2=g (8*b+2)%2:=fun e=>h 2 Od e
 have k3:3≠r→f (8*b+3)%2=g (8*b+3)%2:=fun e=>h 3 Od e
 have k4:4≠r→f (8*b+4)%2=g (8*b+4)%2:=fun e=>h 4 Od e
 have k5:5≠r→f (8*b+5)%2=g (8*b+5)%2:=fun e=>h 5 Od e
 have k6:6≠r→f (8*b+6)%2=g (8*b+6)%2:=fun e=>h 6 Od e
 have k7:7≠r→f (8*b+7)%2=g (8*b+7)%2:=fun e=>h 7 Od e
 unfold byt
 rcases (show r=0∨r=1∨r=2∨r=3∨r=4∨r=5∨r=6∨r=7 by omega) with rfl|rfl|rfl|rfl|rfl|rfl|rfl|rfl<;>(try simp only [Nat.add_zero] at h0 ⊢)<;>omega
theorem qqf {f g:Nat→Nat} {b:Nat} (h:∀ s,s<8→f (8*b+s)%2=g (8*b+s)%2):byt f b=byt g b:=by
 have k0:f (8*b)%2=g (8*b)%2:=h 0 Od;rw [byt,byt,k0,h 1 Od,h 2 Od,h 3 Od,h 4 Od,h 5 Od,h 6 Od,h 7 Od]
theorem qi1 {f g:Nat→Nat} {m:Nat} (h:∀ t,t<8*m→f t%2=g t%2):qbm f m=qbm g m:=by
 refine List.map_congr_left fun b hb=>?_;have hb:=List.mem_range.1 hb;rw [qqf fun s hs=>h _ Oo]
theorem qdr {f:Nat→Nat} {m b:Nat} (h:b<m):(byV (qbm f m))[b]?=some (.int .u8 (byt f b)):=by
 rw [byV,List.getElem?_map,qbm,List.getElem?_map,List.getElem?_range h,Option.map_some,Option.map_some,qak (qky f b)]
theorem qn2 {f g:Nat→Nat} {m e:Nat} (he:e<8*m) (h:∀ t,t<8*m→t≠e→f t%2=g t%2):(byV (qbm f m)).set (e/8) (.int .u8 (byt g (e/8)))=byV (qbm g m):=by
 have hl:∀ f,(byV (qbm f m)).length=m:=fun f=>by rw [qae,qbu]
 apply List.ext_getElem?;intro j;rw [List.getElem?_set]
 by_cases c:e/8=j
 ·subst c;rw [if_pos rfl,if_pos (by rw [hl];omega),qdr Oo]
 ·rw [if_neg c]
  by_cases hj:j<m
  ·rw [qdr hj,qdr hj,qqf fun s hs=>h _ Oo Oo]
  ·rw [List.getElem?_eq_none (by rw [hl];omega),List.getElem?_eq_none (by rw [hl];omega)]
def upF (F:Nat→Nat) (e t:Nat):Nat:=if t<e then F t else 0
theorem q68 (F:Nat→Nat) (e:Nat):byt (upF F e) (e/8)<2 ^ (e%8):=
 qxf Oo fun s h1 h2=>by rw [upF,if_neg Oo]
theorem q3p (F:Nat→Nat) (e:Nat):byt (upF F (e+1)) (e/8)=byt (upF F e) (e/8)+F e%2*2 ^ (e%8):=by
 have h:=qst (f:=upF F e) (g:=upF F (e+1)) (b:=e/8) (r:=e%8) Oo (fun s h1 h2=>by
  unfold upF
  by_cases c:8*(e/8)+s<e
  ·rw [if_pos c,if_pos Oo]
  ·rw [if_neg c,if_neg Oo]) (by rw [upF,if_neg Oo])
 have e1:8*(e/8)+e%8=e:=by omega
 rw [e1] at h;rw [h]
 congr 2
 rw [upF,if_pos Oo]
theorem q0y {F:Nat→Nat} {m e:Nat} (he:e<8*m):(byV (qbm (upF F e) m)).set (e/8) (.int .u8 (byt (upF F e) (e/8)+F e%2*2 ^ (e%8):Nat))=byV (qbm (upF F (e+1)) m):=by
 rw [← q3p];refine qn2 he fun t _ h2=>?_;unfold upF
 by_cases c:t<e
 ·rw [if_pos c,if_pos Oo]
 ·rw [if_neg c,if_neg Oo]
theorem qum (F:Nat→Nat) (m:Nat):byV (qbm (upF F 0) m)=qbb [Value.int .u8 0] m:=by
 rw [qwv,List.eq_replicate_iff];refine ⟨by rw [qae,qbu],fun v hv=>?_⟩;obtain ⟨j,hj⟩:=List.mem_iff_getElem?.1 hv;have hl:=(List.getElem?_eq_some_iff.1 hj).1;rw [qae,qbu] at hl;rw [qdr hl] at hj;have e:byt (upF F 0) j=0:=by
  have:∀ t,upF F 0 t=0:=fun t=>by rw [upF,if_neg (Nat.not_lt_zero _)]
  unfold byt;simp only [this]
 rw [e] at hj;exact (Option.some.inj hj).symm
theorem qtw {f:Nat→Nat} (e x:Nat):qdd .or .u8 ((byt (upF f e) (e/8):Nat):Int) ((x%2*2 ^ (e%8):Nat):Int)=((byt (upF f e) (e/8)+x%2*2 ^ (e%8):Nat):Int):=by
 have h1:=q68 f e;have h2:2 ^ (e%8)≤2 ^ 7:=Nat.pow_le_pow_right Od Oo;have h3:x%2*2 ^ (e%8)≤1*2 ^ (e%8):=Nat.mul_le_mul_right _ Oo;refine ql3 (k:=.u8) (e%8) (qd8 ?_) h1;show byt (upF f e) (e/8)+_<256;have e7:(2:Nat) ^ 7=128:=by decide
 omega
theorem q2x (l:List Nat) (w:Nat):qbm (upF (fun t=>l.getD (t/w) 0/2 ^ (t%w)) (l.length*w)) ((l.length*w+7)/8)=qcs l w:=by
 refine qi1 fun t ht=>?_;unfold upF
 by_cases c:t<l.length*w
 ·rw [if_pos c]
 ·rw [if_neg c];have hw:0<w:=by
   rcases Nat.eq_zero_or_pos w with e|e
   ·subst e;simp at ht
   ·exact e
  have:l.length≤t/w:=(Nat.le_div_iff_mul_le hw).2 Oo;show _=l.getD (t/w) 0/2 ^ (t%w)%2;rw [List.getD_eq_getElem?_getD,List.getElem?_eq_none this];simp
theorem qvu {l:List Nat} {w i k m:Nat} (hk:k≤w) (h:l.getD i 0/2 ^ k=0):qbm (upF (fun t=>l.getD (t/w) 0/2 ^ (t%w)) (i*w+k)) m=qbm (upF (fun t=>l.getD (t/w) 0/2 ^ (t%w)) ((i+1)*w)) m:=by
 refine qi1 fun t _=>?_;unfold upF;have e:(i+1)*w=i*w+w:=by rw [Nat.add_mul,Nat.one_mul]
 by_cases c:t<i*w+k
 ·rw [if_pos c,if_pos Oo]
 ·rw [if_neg c]
  by_cases c2:t<(i+1)*w
  ·rw [if_pos c2];have hw:0<w:=by omega
   obtain ⟨s,rfl⟩:∃ s,t=i*w+s:=⟨t-i*w,by omega⟩
   have e1:(i*w+s)/w=i:=by rw [Nat.mul_comm,Nat.mul_add_div hw,Nat.div_eq_of_lt Oo,Nat.add_zero]
   have e2:(i*w+s)%w=s:=by rw [Nat.mul_comm,Nat.mul_add_mod,Nat.mod_eq_of_lt Oo]
   show _=l.getD ((i*w+s)/w) 0/2 ^ ((i*w+s)%w)%2;rw [e1,e2];obtain ⟨d,rfl⟩:∃ d,s=k+d:=⟨s-k,by omega⟩
   rw [Nat.pow_add,← Nat.div_div_eq_div_mul,h];simp
  ·rw [if_neg c2]
theorem qzv (n:Nat) (w:World) (h:n≤64):Gv Tryz.prog 166 [ii n] w fun r w'=>r=.bool true∧w'=w:=by
 refine ze Tryz.func166 Tryz.ntmps166 ?_;refine zv ?_;exact ⟨congrArg Value.bool (decide_eq_true Oo),rfl⟩
theorem qz0 (n wd:Nat) (w:World) (h:n*wd≤4398046511104):Gv Tryz.prog 169 [ii n,ii wd] w fun r w'=>r=ii ((n*wd+7)/8:Nat)∧w'=w:=by
 obtain ⟨f,ef⟩:∃ f,f=n*wd:=⟨_,rfl⟩
 have efi:(n:Int)*(wd:Int)=(f:Int):=by rw [ef,Int.natCast_mul]
 rw [← ef] at h ⊢;refine ze Tryz.func169 Tryz.ntmps169 ?_;rw [efi];refine zv ?_;exact ⟨congrArg (Value.int .i64) Oo,rfl⟩
theorem qnw {x w:Nat} (hx:x<2 ^ w) (hw:w≤64):qp x≤w:=qcl w x hx hw
theorem qzq (x wd b:Nat) (w:World) (hx:x<18446744073709551616) (hb:w.heap[b]?=some (.cells #[ii wd] 3)) :
  Gv Tryz.prog 168 [.int .u64 x,pp b] w fun r w'=>r=.bool (decide (wd<qp x))∧Ext w w':=by
 have hW:=qnw (x:=x) (w:=64) (by simpa using hx) Od;refine ze Tryz.func168 Tryz.ntmps168 ?_;refine DrawV.free rfl Ok (zw ?_);refine zd ?_;apply zsd
 ·intro wd2 hd;(conv=>whnf);refine zcv (qg5 x wd2 hx) ?_;rintro v w7 ⟨rfl,rfl⟩;exact ⟨xr,rfl⟩
 (conv=>whnf);refine zf ?_ (by intro wd hd;(conv=>whnf);refine LoadV.own (Ext.get (Ext.trans (Ext.drew xr) hd) hb) rfl ?_;(conv=>whnf);exact ⟨xr,rfl⟩);refine zd ?_;refine zd ?_;intro wd2 hd;(conv=>whnf);exact ⟨congrArg Value.bool (by rw [Bool.eq_iff_iff];simp),(Ext.refl w).drew.trans hd⟩
theorem qvw (ps:List Nat) (wd b:Nat) (A:oA) (n c:Nat) (w:World) (hS:SlAt encU 1 w A ps) (hn:ps.length=n) (hl:n≤4398046511104) (hp:∀ x∈ps,x<2 ^ wd) (hw:wd≤64) (hb:w.heap[b]?=some (.cells #[ii wd] 3)) :
  Gv Tryz.prog 223 [.slice A n c,.func (.func 168) #[] #[pp b]] w fun r w'=>r=ii (-1)∧Ext w w':=by
 refine ze Tryz.func223 Tryz.ntmps223 ?_;refine qe (fun i:Nat=>[(0,.slice A n c),(1,.func (.func 168) #[] #[pp b]),(7,ii n),(8,ii i)]) (fun i w1=>i≤n∧Ext w w1) (fun i=>n-i) 0 ⟨rfl,rfl,rfl,rfl,trivial⟩ ⟨Nat.zero_le _,Ext.refl w⟩ ?_;rintro i w1 ρ' ⟨i1,he1⟩;(conv=>whnf);refine zC (fun _=>zw ?_) (fun _=>zw ?_)
 ·have hi:i<ps.length:=by omega
  have hx:=hp _ (List.getElem_mem hi);have hx64:ps[i]<18446744073709551616:=Nat.lt_of_lt_of_le hx (Nat.pow_le_pow_right Od hw);refine ElemV.sl (hS.ext he1) hn i rfl Oo ?_;intro eb eo hcell;(conv=>whnf);refine LoadV.cell0 hcell (zw ?_);refine zcv (qzq ps[i] wd b w1 hx64 (he1.get hb)) ?_;rintro r w2 ⟨rfl,he2⟩;have hf:decide (wd<qp ps[i])=false:=decide_eq_false (by have:=qnw hx hw;omega);rw [hf];refine zu ?_;exact ⟨i+1,⟨rfl,rfl,rfl,rfl,trivial⟩,⟨by omega,he1.trans he2⟩,by omega⟩
 ·exact ⟨rfl,he1⟩
theorem qm4 (ps:List Nat) (wd b:Nat) (A:oA) (n c:Nat) (w:World) (hS:SlAt encU 1 w A ps) (hn:ps.length=n) (hl:n≤4398046511104) (hp:∀ x∈ps,x<2 ^ wd) (hw:wd≤64) (hb:w.heap[b]?=some (.cells #[ii wd] 3)) :
  Gv Tryz.prog 167 [.slice A n c,.func (.func 168) #[] #[pp b]] w fun r w'=>r=.bool false∧Ext w w':=by
 refine ze Tryz.func167 Tryz.ntmps167 ?_;refine zcv (qvw ps wd b A n c w hS hn hl hp hw hb) ?_;rintro r w1 ⟨rfl,he⟩;(conv=>whnf);exact ⟨rfl,he⟩
def pkF (ps:List Nat) (wd t:Nat):Nat:=ps.getD (t/wd) 0/2 ^ (t%wd)
def pkC (ps:List Nat) (wd e:Nat):List Value:=byV (qbm (upF (pkF ps wd) e) ((ps.length*wd+7)/8))
theorem qzx (ps:List Nat) (wd e:Nat):(pkC ps wd e).length=(ps.length*wd+7)/8:=by rw [pkC,qae,qbu]
theorem qtz (ps:List Nat) (wd:Nat):pkC ps wd 0=qbb [Value.int .u8 0] ((ps.length*wd+7)/8):=qum _ _
theorem q4e {ps:List Nat} {wd e:Nat} (h:e<ps.length*wd):(pkC ps wd e)[e/8]?=some (.int .u8 (byt (upF (pkF ps wd) e) (e/8))):=qdr Oo
theorem qzy {ps:List Nat} {wd e:Nat} (h:e<ps.length*wd):(pkC ps wd e).set (e/8) (.int .u8 (byt (upF (pkF ps wd) e) (e/8)+pkF ps wd e%2*2 ^ (e%8):Nat))=pkC ps wd (e+1):=q0y Oo
theorem qzw (ps:List Nat) (wd:Nat):pkC ps wd (ps.length*wd)=byV (qcs ps wd):=by rw [pkC];exact congrArg byV (q2x ps wd)
theorem q22 {ps:List Nat} {wd i k:Nat} (hk:k≤wd) (h:ps.getD i 0/2 ^ k=0):pkC ps wd (i*wd+k)=pkC ps wd ((i+1)*wd):=by rw [pkC,pkC];exact congrArg byV (qvu hk h)
theorem q4f {ps:List Nat} {wd i k:Nat} (hk:k<wd):pkF ps wd (i*wd+k)=ps.getD i 0/2 ^ k:=by
 have e1:(i*wd+k)/wd=i:=by rw [Nat.mul_comm,Nat.mul_add_div Oo,Nat.div_eq_of_lt hk,Nat.add_zero]
 have e2:(i*wd+k)%wd=k:=by rw [Nat.mul_comm,Nat.mul_add_mod,Nat.mod_eq_of_lt hk]
 rw [pkF,e1,e2]
theorem NewS.blk {e:TypeId} {w w':World} {b:Nat} {l:LB} {n:Nat} (he:Ext w w') (hb:w.heap.size≤b) (ho:w'.heap[b]?=some (.cells (byV l).toArray e)) (hn:l.length=n):NewS e w w' (.slice (some ⟨b,0,none⟩) n n) l:=by
 subst hn;refine ⟨he,⟨_,_,rfl,Nat.le_refl _,.inr ⟨b,_,rfl,ho,by rw [List.size_toArray,qae];exact Nat.le_refl _,?_,by rw [List.size_toArray,qae];exact Nat.le_refl _⟩⟩,fun k hk=>?_⟩
 ·rw [List.take_of_length_le (by rw [qae];exact Nat.le_refl _)]
 ·rw [List.mem_singleton.1 hk];exact ⟨hb,qa5 ho⟩
theorem qtx (ps:List Nat) (wd:Nat) (A:oA) (n c:Nat) (w:World) (hS:SlAt encU 1 w A ps) (hn:ps.length=n) (hl:n≤4398046511104) (hnw:n*wd≤4398046511104) (hp:∀ x∈ps,x<2 ^ wd) (hw:wd≤64) :
  Gv Tryz.prog 107 [.slice A n c,ii wd] w fun r w'=>∃ v,r=.tuple #[v,ii 0]∧NewS 5 w w' v (qcs ps wd):=by
 have hroom:=fun w=>qz0 n wd w hnw
 obtain ⟨f,ef⟩:∃ f,f=n*wd:=⟨_,rfl⟩
 rw [← ef] at hroom;have efp:ps.length*wd=f:=by rw [hn,ef]
 refine ze Tryz.func107 Tryz.ntmps107 ?_;refine znm (Mem.nil w) fun b w1 hm=>zw ?_;refine zr hm 0 ?_;refine zcv (qzv wd w1 hw) ?_;rintro r w2 ⟨rfl,rfl⟩;refine zu ?_;refine zcv (qm4 ps wd b A n c w2 (hS.ext hm.ext) hn hl hp hw (hm.get mh)) ?_;rintro r w3 ⟨rfl,he3⟩;have hm:=hm.call he3;(conv=>whnf);refine zt ?_;refine LoadV.mem (i:=0) Oa rfl rfl (zw ?_);refine zcv (hroom w3) ?_;rintro r w4 ⟨rfl,rfl⟩;(conv=>whnf);refine ⟨(f+7)/8,(f+7)/8,rfl,rfl,Nat.le_refl _,by show (f+7)/8*1≤_;omega,by omega,fun ob w5 hb hw5=>?_⟩;have hm:=hm.new hb hw5;have hm:Mem w w5 [(ob,.cells (pkC ps wd 0).toArray 5),(b,.cells #[ii wd] 3)]:=by rw [qtz,efp];exact hm
 clear hb hw5;(conv=>whnf);refine qe (fun i:Nat=>[(0,.slice A n c),(3,pp b),(6,.slice (some ⟨ob,0,none⟩) ((f+7)/8) ((f+7)/8)),(23,.slice A n c),(24,ii n),(25,ii i)])
  (fun i w'=>i≤n∧Mem w w' [(ob,.cells (pkC ps wd (i*wd)).toArray 5),(b,.cells #[ii wd] 3)]) (fun i=>n-i) 0 ⟨rfl,rfl,rfl,rfl,rfl,rfl,trivial⟩ ⟨Nat.zero_le _,by rw [Nat.zero_mul];exact hm⟩ ?_
 clear hm;rintro i w6 ρ' ⟨i1,hm⟩;(conv=>whnf);refine zC (fun _=>zw ?_) (fun _=>zw ?_)
 ·have hi:i<ps.length:=by omega
  have hx:=hp _ (List.getElem_mem hi);have hx64:ps[i]<18446744073709551616:=Nat.lt_of_lt_of_le hx (Nat.pow_le_pow_right Od hw);have hg:ps.getD i 0=ps[i]:=by rw [List.getD_eq_getElem?_getD,zge hi];rfl
  have hm1:i*wd+wd≤f:=by rw [ef,← Nat.succ_mul];exact Nat.mul_le_mul_right _ Oo
  obtain ⟨g,eg⟩:∃ g,g=i*wd:=⟨_,rfl⟩
  have egi:(i:Int)*(wd:Int)=(g:Int):=by rw [eg,Int.natCast_mul]
  rw [← eg] at hm1;refine ElemV.sl (hS.ext hm.ext) hn i rfl Oo ?_;intro eb eo hcell;(conv=>whnf);refine LoadV.cell0 hcell (zw ?_);refine zr hm 1 ?_;rw [egi];refine zv ?_;refine qe (fun k:Nat=>[(0,.slice A n c),(3,pp b),(6,.slice (some ⟨ob,0,none⟩) ((f+7)/8) ((f+7)/8)),(8,.int .u64 (ps[i]/2 ^ k:Nat)),(9,ii (g+k:Nat)),(23,.slice A n c),(24,ii n),(25,ii i)])
   (fun k w'=>k≤wd∧Mem w w' [(ob,.cells (pkC ps wd (g+k)).toArray 5),(b,.cells #[ii wd] 3)]) (fun k=>wd-k) 0 ⟨rfl,rfl,rfl,congrArg (fun n:Nat=>Value.int .u64 n) Js,rfl,rfl,rfl,rfl,trivial⟩ ⟨Nat.zero_le _,by rw [Nat.add_zero,eg];exact hm⟩ ?_
  clear hm;rintro k w7 ρ2 ⟨k1,hm⟩;have hq:ps[i]/2 ^ k<18446744073709551616:=Nat.lt_of_le_of_lt (Nat.div_le_self _ _) hx64;(conv=>whnf);refine zC (fun _=>zu ?_) (fun _=>zu ?_)
  ·have hkw:k<wd:=Nat.lt_of_not_le fun hle=>by
    have:ps[i]/2 ^ k=0:=Nat.div_eq_of_lt (Nat.lt_of_lt_of_le hx (Nat.pow_le_pow_right Od hle));omega
   have he:g+k<ps.length*wd:=by rw [efp];omega
   have hcl:=qzx ps wd (g+k);rw [efp] at hcl;have hld:=q4e he;have hF:pkF ps wd (g+k)=ps[i]/2 ^ k:=by rw [eg,q4f hkw,hg]
   have hby:=qky (upF (pkF ps wd) (g+k)) ((g+k)/8);have hst:=qzy he;rw [hF] at hst;refine DrawV.own rfl Ok (zw ?_);(iterate 3 (refine zo ?_));apply StepO.still
   ·intro wd hd;(conv=>whnf);refine ElemV.own1 ((g+k)/8) rfl Oo (zw ?_);exact PostO.still xr rfl
   (conv=>whnf);apply StepO.still
   ·intro wd hd;(conv=>whnf);refine LoadV.mem (Mem.call (Mem.drew hm) hd) (i:=0) rfl (by rw [List.getElem?_toArray];exact hld) ?_;(conv=>whnf);exact PostO.still xr rfl
   (conv=>whnf);refine zo ?_;apply StepO.still
   ·intro wd1 hd;(conv=>whnf);refine Wit.eq (qbc (k:=.u64) (m:=ps[i]/2 ^ k) 1 rfl (qls hq) ⟨by omega,by omega⟩) (zw ?_);exact PostO.still xr rfl
   (conv=>whnf);(iterate 3 (refine zo ?_));apply StepO.still
   ·intro wd1 hd;(conv=>whnf);refine V.Wit.shlN ((g+k)%8) Oo (by show (g+k)%8<8;omega) (qd8 ?_) ?_
    ·have h2:2 ^ ((g+k)%8)≤2 ^ 7:=Nat.pow_le_pow_right Od Oo;have h3:ps[i]/2 ^ k%2 ^ 1*2 ^ ((g+k)%8)≤1*2 ^ ((g+k)%8):=Nat.mul_le_mul_right _ Oo;have e7:(2:Nat) ^ 7=128:=by decide
     show ps[i]/2 ^ k%2 ^ 1*2 ^ ((g+k)%8)<256;omega
    (conv=>whnf);exact PostO.still xr rfl
   (conv=>whnf);apply StepO.still
   ·intro wd1 hd;(conv=>whnf);refine Wit.eq (qtw (f:=pkF ps wd) (g+k) (ps[i]/2 ^ k)) (zw ?_);exact PostO.still xr rfl
   (conv=>whnf);apply StepO.still
   ·intro wd1 hd;(conv=>whnf);refine ElemV.own1 ((g+k)/8) rfl Oo (zw ?_);exact PostO.still xr rfl
   (conv=>whnf);intro w8 hd8
   (repeat (intro _;(conv=>whnf)))
   (conv=>whnf);refine StoreV.mem (hm.drew.call hd8) (i:=0) rfl (by rw [List.size_toArray];omega) rfl ?_;intro w9 hm;have hm:Mem w w9 [(ob,.cells (pkC ps wd (g+k+1)).toArray 5),(b,.cells #[ii wd] 3)]:=by
    rw [← hst];have e:((pkC ps wd (g+k)).toArray.setIfInBounds ((g+k)/8) (.int .u8 (byt (upF (pkF ps wd) (g+k)) ((g+k)/8)+ps[i]/2 ^ k%2*2 ^ ((g+k)%8):Nat)))=((pkC ps wd (g+k)).set ((g+k)/8) (.int .u8 (byt (upF (pkF ps wd) (g+k)) ((g+k)/8)+ps[i]/2 ^ k%2*2 ^ ((g+k)%8):Nat))).toArray:=by simp
    rw [← e];exact hm
   (conv=>whnf);refine V.Wit.shrN 1 rfl Od (zu ?_);refine ⟨k+1,⟨rfl,rfl,rfl,congrArg (fun n:Nat=>Value.int .u64 n) (by rw [Nat.div_div_eq_div_mul,← Nat.pow_succ]),congrArg (Value.int .i64) Oo,rfl,rfl,rfl,trivial⟩,⟨by omega,hm⟩,by omega⟩
  ·have hz:ps.getD i 0/2 ^ k=0:=by rw [hg];omega
   refine ⟨i+1,⟨rfl,rfl,rfl,rfl,rfl,rfl,trivial⟩,⟨by omega,?_⟩,by omega⟩;rw [← q22 k1 hz,← eg];exact hm
 ·obtain rfl:i=n:=by omega
  obtain ⟨o1,o2⟩:=hm.own _ mh;refine ⟨_,rfl,NewS.blk hm.ext o1 ?_ (by rw [qbl,efp])⟩;rw [← qzw,hn];exact o2
def txs (L:List ByteArray):List LB:=L.map fun s=>s.data.toList
theorem qbr (L:List ByteArray):(txs L).length=L.length:=by rw [txs,List.length_map]
theorem qic {L:List ByteArray} {i:Nat} (h:i<L.length):tx (txs L) i=L[i].data.toList:=by
 rw [tx,List.getD_eq_getElem?_getD,txs,List.getElem?_map,zge h];rfl
theorem q0v {L:List ByteArray} {i:Nat} (h:L.length≤i):tx (txs L) i=[]:=by
 rw [tx,List.getD_eq_getElem?_getD,txs,List.getElem?_map,List.getElem?_eq_none h];rfl
theorem qd6 {L:List ByteArray} {i:Nat} (h:i<L.length):(tx (txs L) i).length=L[i].size:=by rw [qic h];rfl
open Classical in
noncomputable def chkD (L:List LB):Nat:=
 if 4194304<L.length∨∃ i,262144<(tx L i).length then 2 else if ∃ i,i+1<L.length∧leL (tx L (i+1)) (tx L i)=true then 160 else 0
theorem qxj {L:List LB} (h:4194304<L.length):chkD L=2:=by rw [chkD,if_pos (.inl h)]
theorem qxm {L:List LB} {i:Nat} (h:262144<(tx L i).length):chkD L=2:=by rw [chkD,if_pos (.inr ⟨i,h⟩)]
theorem qxl {L:List LB} (h:¬ 4194304<L.length) (h2:∀ i,¬ 262144<(tx L i).length) {i:Nat} (hi:i+1<L.length) (hl:leL (tx L (i+1)) (tx L i)=true):chkD L=160:=by
 rw [chkD,if_neg (fun g=>g.elim h fun ⟨i,g⟩=>h2 i g),if_pos ⟨i,hi,hl⟩]
theorem qxk {L:List LB} (h:¬ 4194304<L.length) (h2:∀ i,¬ 262144<(tx L i).length) (h3:∀ i,i+1<L.length→leL (tx L (i+1)) (tx L i)=false):chkD L=0:=by
 rw [chkD,if_neg (fun g=>g.elim h fun ⟨i,g⟩=>h2 i g),if_neg (fun ⟨i,hi,g⟩=>by rw [h3 i hi] at g;cases g)]
theorem qi4 {L:List LB} (h:chkD L=0):L.length≤4194304∧(∀ i,(tx L i).length≤262144)∧(∀ i,i+1<L.length→leL (tx L (i+1)) (tx L i)=false):=by
 rw [chkD] at h
 split at h
 ·cases h
 ·rename_i g
  split at h
  ·cases h
  ·rename_i g2
   refine ⟨Nat.le_of_not_lt fun e=>g (.inl e),fun i=>Nat.le_of_not_lt fun e=>g (.inr ⟨i,e⟩),fun i hi=>?_⟩;cases e:leL (tx L (i+1)) (tx L i) with
   | false=>rfl
   | true=>exact absurd ⟨i,hi,e⟩ g2
theorem qmd (L:List LB):dicE L=if chkD L=0 then (if 67108864<(qr L).length then 1 else 0) else chkD L:=by
 rw [dicE,chkD]
 split
 ·rfl
 ·split
  ·rfl
  ·rfl
theorem qs0 {L:List LB} (h:chkD L≠0):dicE L=chkD L:=by rw [qmd,if_neg h]
theorem qs1 {L:List LB} (h:chkD L=0) (h2:(qr L).length≤67108864):dicE L=0:=by rw [qmd,if_pos h,if_neg Oo]
theorem qf6 {L:List LB} (h:chkD L=0) (h2:67108864<(qr L).length):dicE L=1:=by rw [qmd,if_pos h,if_pos h2]
def plcN (L:List LB) (i:Nat):List Nat:=(List.range (upN i 16)).map fun k=>(arL L (16*k)).length
theorem qm5 (L:List LB) {i:Nat} (h:i%16=0):plcN L (i+1)=plcN L i++[(arL L i).length]:=by
 have e1:upN (i+1) 16=upN i 16+1:=by unfold upN;omega
 have e2:16*upN i 16=i:=by unfold upN;omega
 rw [plcN,e1,List.range_succ,List.map_append,List.map_singleton,e2];rfl
theorem qjs (L:List LB) {i:Nat} (h:i%16≠0):plcN L (i+1)=plcN L i:=by
 have e1:upN (i+1) 16=upN i 16:=by unfold upN;omega
 rw [plcN,e1];rfl
theorem qim (L:List LB) {i j:Nat} (h:i≤j):(arL L i).length≤(arL L j).length:=by
 obtain ⟨r,hr⟩:=ql0 L h;rw [hr,zla];omega
theorem qw5 (L:List LB) {i:Nat} (h:i%16=0):arL L (i+1)=arL L i++(varL (tx L i).length++tx L i):=by
 rw [arL,entE,if_pos (decide_eq_true h)]
theorem qsm (L:List LB) {i:Nat} (h:i%16≠0):arL L (i+1)=arL L i++(varL (comL (tx L (i-1)) (tx L i))++(varL ((tx L i).length-comL (tx L (i-1)) (tx L i))++(tx L i).drop (comL (tx L (i-1)) (tx L i)))):=by
 rw [arL,entE,if_neg (by rw [decide_eq_false h];decide),if_neg (show ¬ i=0 by omega)]
theorem q5i {first:Bool} {a s:LB} (ha:a.length≤262144) (hs:s.length≤262144):(entE first a s).length≤262164:=by
 have hc:=qhb a s;have v1:=qac 8 (comL a s) (Nat.lt_of_le_of_lt (Nat.le_trans hc.1 ha) Od);have v2:=qac 8 (s.length-comL a s) (Nat.lt_of_le_of_lt (Nat.le_trans (Nat.sub_le _ _) hs) Od);have v3:=qac 8 s.length (Nat.lt_of_le_of_lt hs Od);cases first with
 | true=>rw [entE,if_pos rfl,zla];omega
 | false=>rw [entE,if_neg Od,zla,zla,zld];omega
theorem q3x {L:List LB} (h:∀ i,(tx L i).length≤262144):∀ i,(arL L i).length≤i*262164
 | 0=>Nat.le_refl _
 | i+1=>by
  have h1:=q3x h i;have h2:(if i=0 then [] else tx L (i-1)).length≤262144:=by
   split
   ·exact Nat.zero_le _
   ·exact h _
  have h3:=q5i (first:=decide (i%16=0)) h2 (h i);rw [arL,zla,Nat.succ_mul];omega
theorem q6i {L:List LB} (ha:(qr L).length≤67108864):∀ x∈plcL L,x<2 ^ qp (qr L).length:=by
 intro x hx;rw [plcL,List.mem_map] at hx;obtain ⟨k,hk,rfl⟩:=hx;have hk:=List.mem_range.1 hk;have h1:16*k≤L.length:=by unfold upN at hk;omega
 have h2:(arL L (16*k)).length≤(qr L).length:=qim L h1;have h3:=qir (n:=(qr L).length) Oo;omega
theorem quz {n:Nat} (h:n≤67108864):qp n≤27:=qcl 27 n (Nat.lt_of_le_of_lt h Od) Od
theorem qoa {L:List LB} (hn:L.length≤4194304) (ha:(qr L).length≤67108864):(qh L).length≤70000000:=by
 have v1:=qac 8 L.length (Nat.lt_of_le_of_lt hn Od);have v2:=qac 8 (qr L).length (Nat.lt_of_le_of_lt ha Od);have hw:=quz ha;have hp:=qbl (plcL L) (qp (qr L).length);rw [qiu] at hp;have hm:upN L.length 16*qp (qr L).length≤262144*27:=Nat.mul_le_mul (by unfold upN;omega) hw;rw [qh,zla,zla,zla,hp];omega
theorem qyy {L:List ByteArray} {i j:Nat} (hi:i<L.length) (hj:j<L.length):leL (tx (txs L) i) (tx (txs L) j)=(slt L[i] L[j]||seq L[i] L[j]):=by
 rw [qic hi,qic hj];rfl
theorem quf {a b:ByteArray}:slt a b=false↔(slt b a||seq b a)=true:=by
 rw [← Bool.not_eq_true,qex,Bool.or_eq_true,qex,qao,List.not_lt]
 constructor
 ·intro h
  rcases List.le_iff_lt_or_eq.1 h with h|h
  ·exact .inl h
  ·exact .inr (qks h)
 ·rintro (h|h)
  ·exact List.le_of_lt h
  ·rw [h];exact List.le_refl _
theorem qvc (L:List ByteArray) (A:oA) (n c:Nat) (w:World) (hS:SlAt zeS 1 w A L) (hn:L.length=n) (hb:n≤140737488355328) :
  Gv Tryz.prog 151 [.slice A n c] w fun r w'=>r=ii (chkD (txs L))∧Ext w w':=by
 refine ze Tryz.func151 Tryz.ntmps151 ?_;refine zC (fun _=>zw ?_) (fun _=>zw ?_)
 ·exact ⟨by rw [qxj (by rw [qbr];omega)];rfl,Ext.refl w⟩
 ·have hlong:¬ 4194304<(txs L).length:=by rw [qbr];omega
  refine qe (fun i:Nat=>[(0,.slice A n c),(9,.slice A n c),(10,ii n),(11,ii i)]) (fun i w1=>i≤n∧(∀ j,j<i→¬ 262144<(tx (txs L) j).length)∧w1=w) (fun i=>n-i) 0 ⟨rfl,rfl,rfl,rfl,trivial⟩ ⟨Nat.zero_le _,fun j h=>absurd h (Nat.not_lt_zero _),rfl⟩ ?_;rintro i w1 ρ' ⟨i1,i2,rfl⟩;(conv=>whnf);refine zC (fun _=>zw ?_) (fun _=>zw ?_)
  ·have hi:i<L.length:=by omega
   have hx:=qd6 hi;refine ElemV.sl hS hn i rfl Oo ?_;intro eb eo hcell;(conv=>whnf);refine LoadV.cell0 hcell (zw ?_);refine zC (fun _=>zu ?_) (fun _=>zu ?_)
   ·exact ⟨by rw [qxm (i:=i) Oo];rfl,xr⟩
   ·refine ⟨i+1,⟨rfl,rfl,rfl,rfl,trivial⟩,⟨by omega,fun j hj=>?_,rfl⟩,by omega⟩
    by_cases e:j=i
    ·subst e;omega
    ·exact i2 j Oo
  ·obtain rfl:i=n:=by omega
   have hsh:∀ j,¬ 262144<(tx (txs L) j).length:=fun j=>by
    by_cases hj:j<i
    ·exact i2 j hj
    ·rw [q0v Oo];decide
   refine qe (fun k:Nat=>[(0,.slice A i c),(5,ii (k+1:Nat))]) (fun k w2=>(∀ j,j<k→j+1<L.length→leL (tx (txs L) (j+1)) (tx (txs L) j)=false)∧Ext w1 w2) (fun k=>i-k) 0 ⟨rfl,rfl,trivial⟩ ⟨fun j h=>by omega,Ext.refl w1⟩ ?_;rintro k w2 ρ2 ⟨k1,he2⟩;(conv=>whnf);refine zC (fun _=>zw ?_) (fun _=>zw ?_)
   ·have hk:k+1<L.length:=by omega
    obtain ⟨b,off,rfl,hat⟩:=(hS.ext he2).at_ (by intro e;rw [e] at hk;cases hk);have hca:=(hat k _ (zge Oo)).ext (Ext.refl w2).drew;have hcb:=(hat (k+1) _ (zge hk)).ext (Ext.refl w2).drew;refine zy ?_;refine zv ?_;refine ⟨⟨b,off,k,rfl,by omega,by omega,?_⟩⟩;refine zu ?_;refine LoadV.cell0 hca (zu ?_);refine ⟨⟨b,off,k+1,rfl,by omega,by omega,?_⟩⟩;refine zu ?_;refine LoadV.cell0 hcb (zu ?_);have he3:=he2.drew;have hle:=qyy hk (show k<L.length by omega);refine Tst.both (fun hlt=>?_) fun hlt=>?_
    ·refine zu ?_;refine ⟨k+1,⟨rfl,congrArg (Value.int .i64) Oo,trivial⟩,⟨fun j hj hjl=>?_,he3⟩,by omega⟩
     by_cases e:j=k
     ·subst e;rw [hle,← Bool.not_eq_true];exact fun g=>by rw [quf.2 g] at hlt;cases hlt
     ·exact k1 j Oo hjl
    ·(conv=>whnf);exact ⟨by rw [qxl hlong hsh (i:=k) (by rw [qbr];exact hk) (by rw [hle];exact quf.1 hlt)];rfl,he3⟩
   ·exact ⟨by rw [qxk hlong hsh (fun j hj=>by rw [qbr] at hj;exact k1 j Oo hj)];rfl,he2⟩
def u64V (l:List Nat):List Value:=l.map fun n=>Value.int .u64 (n:Nat)
theorem qa2 (l:List Nat):(u64V l).length=l.length:=by simp [u64V]
theorem qjo {α:Type} {f:α→Value} {w:World} {base n c:Nat} {e:TypeId} {A:oA} {l:List α} (h:w.ownsRow base e 1 (.slice A n c) n (l.map f)) (hn:l.length=n):SlAt (fun x=>[f x]) 1 w A l:=by
 subst hn;refine ⟨fun hne=>?_⟩
 rcases h.2 with ⟨e1,e2⟩|⟨g,cap,cur,e1,_,h2,_,_,h5,h6⟩
 ·exact absurd (List.eq_nil_of_length_eq_zero e2) hne
 ·cases e1;refine ⟨g,0,rfl,fun j x hx k v hv=>?_⟩;cases k with
  | succ k=>simp at hv
  | zero=>
   simp only [List.getElem?_cons_zero,Option.some.injEq] at hv;subst hv;have hj:=(List.getElem?_eq_some_iff.1 hx).1;have h7:(l.map f)[j]?=some (f x):=by rw [List.getElem?_map,hx];rfl
   rw [← h6,List.getElem?_take,if_pos Oo] at h7;rw [qa h2,Nat.zero_add,Nat.mul_one,Nat.add_zero]
   simpa using h7
theorem qjp {w:World} {base n:Nat} {A:oA} {c:Nat} {l:List Nat} (h:w.ownsRow base 125 1 (.slice A n c) n (u64V l)) (hn:l.length=n):SlAt encU 1 w A l:=qjo (f:=fun x:Nat=>Value.int .u64 (x:Nat)) h hn
structure DicS (L:List LB) (w0 w:World) (b i:Nat) (v:Value):Prop where
 h:∃ F ps,Sep w0 w [F,rowF v]∧BufAt w b 67108864 (arL L i) F∧w.ownsRow 0 125 1 v (upN i 16) (u64V ps)∧ps.length=upN i 16∧((arL L i).length≤67108864→ps=plcN L i)
theorem qp0 {L:List ByteArray} (h:chkD (txs L)=0) {i:Nat} (hi:i<L.length):L[i].size≤262144:=by rw [← qd6 hi];exact (qi4 h).2.1 i
theorem qi0 {L:List LB} (h:chkD L=0) {i:Nat} (hi:i≤L.length):(arL L i).length≤1200000000000:=by
 obtain ⟨h1,h2,_⟩:=qi4 h;have h3:=q3x h2 i;have h4:i*262164≤4194304*262164:=Nat.mul_le_mul_right _ Oo;omega
def DBuR (L:List LB) (w w':World) (r:Value):Prop:=
 (dicE L≠0∧r=.tuple #[.slice none 0 0,ii (dicE L)]∧Ext w w')∨(dicE L=0∧∃ v,r=.tuple #[v,ii 0]∧NewS 5 w w' v (qh L))
theorem DicS.step {L:List LB} {w0 w':World} {b i:Nat} {v:Value} {F:List Nat} {ps:List Nat} (hS:Sep w0 w' [F,rowF v]) (hB:BufAt w' b 67108864 (arL L i) F) (hO:w'.ownsRow 0 125 1 v (upN i 16) (u64V ps)) (hl:ps.length=upN i 16)
  (hp:(arL L i).length≤67108864→ps=plcN L i):DicS L w0 w' b i v:=⟨⟨F,ps,hS,hB,hO,hl,hp⟩⟩
theorem qvb (L:List ByteArray) (A:oA) (n c:Nat) (w:World) (hS:SlAt zeS 1 w A L) (hn:L.length=n) (hb:n≤140737488355328) :
  Gv Tryz.prog 98 [.slice A n c,ii 4611686018427387904] w fun r w'=>DBuR (txs L) w w' r:=by
 refine ze Tryz.func98 Tryz.ntmps98 ?_;refine zcv (qvc L A n c w hS hn hb) ?_;rintro r w1 ⟨rfl,he1⟩
 by_cases hE:chkD (txs L)=0
 ·have hLn:=(qi4 hE).1;rw [qbr,hn] at hLn;rw [hE];refine zu ?_;refine zcv (qe1 67108864 w1) ?_;rintro r w2 ⟨b,rfl,he2,hb2,hB⟩;have hB:BufAt w2 b 67108864 (arL (txs L) 0) [b]:=hB;have hSp:Sep w w2 [[b],rowF (.slice none 0 0)]:=((Sep.of he1).add (F:=rowF (.slice none 0 0)) (Ext.refl w1) (fun k hk=>by cases hk)).add he2 fun k hk=>by rw [List.mem_singleton.1 hk];exact ⟨hb2,hB.lt b (List.mem_singleton.2 rfl)⟩
  (conv=>whnf);refine qe (fun x:Nat × oA × Nat=>[(0,.slice A n c),(1,ii 4611686018427387904),(7,pp b),(8,.slice x.2.1 (upN x.1 16) x.2.2),(23,.slice A n c),(24,ii n),(25,ii x.1)])
   (fun x w'=>x.1≤n∧DicS (txs L) w w' b x.1 (.slice x.2.1 (upN x.1 16) x.2.2)) (fun x=>n-x.1) (0,none,0) ⟨rfl,rfl,rfl,rfl,rfl,rfl,rfl,trivial⟩ ⟨Nat.zero_le _,DicS.step hSp hB (World.ownsRow_nil _ _ _ _) (ps:=[]) rfl fun _=>rfl⟩ ?_
  clear hB hSp;rintro ⟨i,P,cp⟩ w3 ρ' ⟨i1,⟨F,ps,hSp,hB,hO,hpl,hps⟩⟩;dsimp only at i1 hSp hB hO hpl hps ⊢;(conv=>whnf);refine zC (fun _=>zw ?_) (fun _=>zw ?_)
  ·have hi:i<L.length:=by omega
   have hsz:=qp0 hE hi;have hx:=qic hi;have hal:=qi0 (L:=txs L) hE (i:=i) (by rw [qbr];omega);have hup:upN i 16≤262144:=by unfold upN;omega
   refine ElemV.sl (hS.ext hSp.ext) hn i rfl Oo ?_;intro eb eo hcell;(conv=>whnf);refine LoadV.cell0 hcell (zw ?_);refine zt ?_;refine zC (fun _=>zu ?_) (fun _=>zu ?_)
   ·have hi16:i%16=0:=by omega
    have hlx:(tx (txs L) i).length=L[i].size:=qd6 hi;refine zcv (q1o b 67108864 _ F w3 hB) ?_;rintro r w4 ⟨⟨k,rfl,hk1,hk2⟩,rfl⟩;refine zu ?_;refine ⟨fun nb w5 hnb hw=>?_⟩;have he5:Ext w4 w5:=by rw [hw];exact (Ext.refl w4).alloc _
    have hc5:w5.heap[nb]?=some (.cells #[.int .u64 k] 125):=by rw [hw,hnb];exact heap_alloc_new w4 _
    have hSp:=hSp.call he5;have hB:=hB.call he5;have hO:=q9 hO he5;clear hnb hw;(conv=>whnf);refine AppV.cell q0w u64I u64Z Ok rfl (by decide +kernel) hO hc5 rfl Oo ?_;intro A' c' w6 hO hch hnew;obtain ⟨hSp,_,hkp⟩:=hSp.row (i:=1) (F':=rowF (.slice A' (upN i 16+1) c')) rfl hch hnew;have hB:=hB.keep (hkp 0 _ rfl Od);refine zu ?_;refine zcv (qbn b 67108864 _ L[i].size F w6 hB Oo Od Oo) ?_;rintro r w7 ⟨rfl,hC⟩;obtain ⟨F7,⟨hSp,_,hkp⟩,hB⟩:=hSp.buf (i:=0) rfl hC;have hO:=qo hO (hkp 1 _ rfl Od);have hlv:=qac 9 L[i].size Oo;(conv=>whnf);refine NewBytesV.sl ?_;intro sb scap w8 hsc he8 hsS;have hSp:=hSp.call he8;have hB:=hB.call he8;have hO:=q9 hO he8;(conv=>whnf);refine zcv (qcu b 67108864 _ L[i].data.toList F7 (some ⟨sb,0,none⟩) L[i].size scap w8 hB hsS rfl Od (by rw [zla];show _+L[i].size≤_;omega)) ?_;rintro r w9 ⟨rfl,hC⟩;obtain ⟨F9,⟨hSp,_,hkp⟩,hB⟩:=hSp.buf (i:=0) rfl hC;have hO:=qo hO (hkp 1 _ rfl Od);have hup1:upN (i+1) 16=upN i 16+1:=by unfold upN;omega
    have har:arL (txs L) (i+1)=arL (txs L) i++varL L[i].size++L[i].data.toList:=by rw [qw5 _ hi16,hlx,hx,List.append_assoc]
    refine zu ?_;refine ⟨(i+1,A',c'),⟨rfl,rfl,rfl,by show Value.slice _ _ _=_;rw [hup1],rfl,rfl,rfl,trivial⟩,⟨by simp only;omega,?_⟩,by simp only;omega⟩;show DicS (txs L) w w9 b (i+1) (.slice A' (upN (i+1) 16) c');rw [hup1];refine ⟨⟨F9,ps++[k],hSp,by rw [har];exact hB,?_,by rw [zla,hpl,hup1];rfl,fun hle=>?_⟩⟩
    ·rw [hup1,u64V,List.map_append];exact hO
    ·have h1:(arL (txs L) i).length≤67108864:=Nat.le_trans (qim _ (Nat.le_succ i)) hle;rw [qm5 _ hi16,hps h1,hk2 h1]
   ·have hi16:i%16≠0:=by omega
    have hi0:i≠0:=fun e=>hi16 (by rw [e])
    have hsz1:=qp0 hE (i:=i-1) Oo;have hlx:(tx (txs L) i).length=L[i].size:=qd6 hi;have hx1:=qic (L:=L) (i:=i-1) Oo;have hcm:=qhb (tx (txs L) (i-1)) (tx (txs L) i);rw [hlx] at hcm;refine ElemV.sl (hS.ext hSp.ext) hn (i-1) Oo Oo ?_;intro eb2 eo2 hcell2;(conv=>whnf);refine LoadV.cell0 hcell2 (zw ?_);refine zcv (qw2 (L[i-1]' Oo) L[i] w3 Oo) ?_;rintro r w4 ⟨rfl,he4⟩;rw [← hx1,← hx];obtain ⟨cm,ecm⟩:∃ cm,cm=comL (tx (txs L) (i-1)) (tx (txs L) i):=⟨_,rfl⟩
    rw [← ecm] at hcm ⊢;have hSp:=hSp.call he4;have hB:=hB.call he4;have hO:=q9 hO he4;have hlv1:=qac 9 cm Oo;have hlv2:=qac 9 (L[i].size-cm) Oo;refine zu ?_;refine zcv (qbn b 67108864 _ cm F w4 hB Oo Od Oo) ?_;rintro r w5 ⟨rfl,hC⟩;obtain ⟨F5,⟨hSp,_,hkp⟩,hB⟩:=hSp.buf (i:=0) rfl hC;have hO:=qo hO (hkp 1 _ rfl Od);refine zu ?_;have esub:(L[i].size:Int)-(cm:Int)=((L[i].size-cm:Nat):Int):=by omega
    rw [esub];refine zcv (qbn b 67108864 _ (L[i].size-cm) F5 w5 hB Oo Od (by rw [zla];omega)) ?_;rintro r w6 ⟨rfl,hC⟩;obtain ⟨F6,⟨hSp,_,hkp⟩,hB⟩:=hSp.buf (i:=0) rfl hC;have hO:=qo hO (hkp 1 _ rfl Od);(conv=>whnf);refine ⟨cm,L[i].size,rfl,rfl,by omega,Nat.le_refl _,?_⟩;obtain ⟨sx,esx⟩:∃ sx,sx=L[i].extract cm L[i].size:=⟨_,rfl⟩
    have hsx:sx.data.toList=(tx (txs L) i).drop cm:=by rw [esx,qau,hx];exact List.take_of_length_le (by rw [zld];exact Nat.le_refl _)
    have hsl:sx.data.toList.length=L[i].size-cm:=by rw [hsx,zld,hlx]
    rw [← esx];(conv=>whnf);refine NewBytesV.sl ?_;intro sb scap w7 hsc he7 hsS;have hSp:=hSp.call he7;have hB:=hB.call he7;have hO:=q9 hO he7;(conv=>whnf);refine zcv (qcu b 67108864 _ sx.data.toList F6 (some ⟨sb,0,none⟩) sx.size scap w7 hB hsS rfl Od (by rw [zla,zla,hsl];omega)) ?_;rintro r w8 ⟨rfl,hC⟩;obtain ⟨F8,⟨hSp,_,hkp⟩,hB⟩:=hSp.buf (i:=0) rfl hC;have hO:=qo hO (hkp 1 _ rfl Od);have hup1:upN (i+1) 16=upN i 16:=by unfold upN;omega
    have har:arL (txs L) (i+1)=arL (txs L) i++varL cm++varL (L[i].size-cm)++sx.data.toList:=by rw [qsm _ hi16,hlx,← ecm,hsx];simp only [List.append_assoc]
    refine zu ?_;refine ⟨(i+1,P,cp),⟨rfl,rfl,rfl,by show Value.slice _ _ _=_;rw [hup1],rfl,rfl,rfl,trivial⟩,⟨by simp only;omega,?_⟩,by simp only;omega⟩;show DicS (txs L) w w8 b (i+1) (.slice P (upN (i+1) 16) cp);rw [hup1];refine ⟨⟨F8,ps,hSp,by rw [har];exact hB,by rw [hup1];exact hO,by rw [hpl,hup1],fun hle=>?_⟩⟩;have h1:(arL (txs L) i).length≤67108864:=Nat.le_trans (qim _ (Nat.le_succ i)) hle;rw [qjs _ hi16,hps h1]
  ·obtain rfl:i=n:=by omega
   have hal:=qi0 (L:=txs L) hE (i:=i) (by rw [qbr];omega);have hLl:(txs L).length=i:=by rw [qbr,hn]
   have hAr:arL (txs L) i=qr (txs L):=by rw [qr,hLl]
   refine zcv (qcm b 67108864 _ F w3 hB Oo) ?_;rintro r w4 hR;rw [hAr] at hR hps
   rcases hR with ⟨hbig,rfl,rfl⟩|⟨hle,v,rfl,hN⟩
   ·refine zu ?_;exact .inl ⟨by rw [qf6 hE hbig];decide,by rw [qf6 hE hbig];rfl,hSp.ext⟩
   ·have hps:=hps hle;have ePlc:plcN (txs L) i=plcL (txs L):=by rw [← hLl];rfl
    rw [ePlc] at hps;subst hps;have hOw:=q9 hO hN.ext;have hup:upN i 16≤262144:=by unfold upN;omega
    have hbs:=hN.bs;have he4:Ext w w4:=hSp.ext.trans hN.ext;obtain ⟨Av,cv,rfl,hcv,hAv⟩:=id hbs;have hwd:=quz hle;refine zu ?_;refine zcv (qg5 (qr (txs L)).length w4 Oo) ?_;rintro r w5 ⟨rfl,rfl⟩;(conv=>whnf);refine zcv (qtx (plcL (txs L)) (qp (qr (txs L)).length) P (upN i 16) cp w5 (qjp hOw hpl) hpl Oo (Nat.le_trans (Nat.mul_le_mul hup hwd) Od) (q6i hle) Oo) ?_;rintro r w6 ⟨vp,rfl,hNp⟩;have hbp:=hNp.bs;have hpkl:=qbl (plcL (txs L)) (qp (qr (txs L)).length);have hpk:(plcL (txs L)).length*qp (qr (txs L)).length≤262144*27:=Nat.mul_le_mul Oo hwd;obtain ⟨Ap,cq,rfl,hcq,hAp⟩:=id hbp;obtain ⟨pk,epk⟩:∃ pk,pk=qcs (plcL (txs L)) (qp (qr (txs L)).length):=⟨_,rfl⟩
    obtain ⟨pr,epr⟩:∃ pr,pr=(plcL (txs L)).length*qp (qr (txs L)).length:=⟨_,rfl⟩
    rw [← epk] at hAp hpkl hcq;rw [← epr] at hpkl hpk;have he6:=he4.trans hNp.ext;(conv=>whnf);refine zcv (qe1 4611686018427387904 w6) ?_;rintro r w7 ⟨ob,rfl,he7,hob,hB7⟩;have hU:BufS w6 w7 ob 4611686018427387904 []:=BufS.new (Ext.refl w6) he7 hob hB7;refine zu ?_;have hlv1:=qac 9 i Oo;have hlv2:=qac 9 (qr (txs L)).length Oo;refine zcv (hU.step fun F hF=>qbn ob 4611686018427387904 _ i F w7 hF Oo Od Js) ?_;rintro r w8 ⟨rfl,hU⟩;refine zu ?_;refine zcv (hU.step fun F hF=>qbn ob 4611686018427387904 _ (qr (txs L)).length F w8 hF Oo Od (by rw [List.nil_append];omega)) ?_;rintro r w9 ⟨rfl,hU⟩;(conv=>whnf);rw [← epk];refine zcv (hU.step fun F hF=>qcu ob 4611686018427387904 _ pk F Ap pk.length cq w9 hF (hAp.ext hU.ext) rfl Od (by rw [List.nil_append,zla];omega)) ?_;rintro r w10 ⟨rfl,hU⟩;(conv=>whnf);refine zcv (hU.step fun F hF=>qcu ob 4611686018427387904 _ (qr (txs L)) F Av (qr (txs L)).length cv w10 hF (hAv.ext (hNp.ext.trans hU.ext)) rfl Od (by simp only [List.nil_append,zla];omega)) ?_;rintro r w11 ⟨rfl,hU⟩;have eD:[]++varL i++varL (qr (txs L)).length++pk++qr (txs L)=qh (txs L):=by rw [qh,hLl,← epk];simp only [List.nil_append,List.append_assoc]
    rw [eD] at hU;have hdl:=qoa (L:=txs L) Oo hle;obtain ⟨F11,hSp11,hB11⟩:=hU.h;(conv=>whnf);refine zcv (qcm ob 4611686018427387904 _ F11 w11 hB11 Oo) ?_;rintro r w12 (⟨hbig,_⟩|⟨_,v2,rfl,hN2⟩)
    ·omega
    ·obtain ⟨A2,c2,ev2,_⟩:=id hN2.h;subst ev2;(conv=>whnf);exact .inr ⟨qs1 hE hle,_,rfl,hN2.back (he6.trans hU.ext)⟩
 ·have h0:¬ ((chkD (txs L):Nat):Int)=0:=by omega
  refine zu ?_;exact .inl ⟨by rw [qs0 hE];exact hE,by rw [qs0 hE],he1⟩
open Go.RowKit Region
namespace V
structure ExtE (w w':World):Prop where
 ext:Ext w w'
 dr:w.drawn≤w'.drawn
theorem ExtE.refl (w:World):ExtE w w:=⟨Ext.refl w,Nat.le_refl _⟩
theorem ExtE.trans {a b c:World} (h:ExtE a b) (k:ExtE b c):ExtE a c:=⟨h.ext.trans k.ext,Nat.le_trans h.dr k.dr⟩
theorem ExtE.alloc {a w:World} (h:ExtE a w) (o:Obj):ExtE a (w.alloc o):=⟨h.ext.alloc o,h.dr⟩
theorem ExtE.drew (w:World):ExtE w w.drew:=⟨(Ext.refl w).drew,Nat.le_succ _⟩
structure StepE (A:(Value→World→Prop)→Prop) (K:Option Value→(Value→World→Prop)→Prop):Prop where
 h:(∃ v,A (fun u _=>u=v)∧K (some v) (fun u _=>u=v))∨(∃ φ:Value→World→Prop,(∀ v w w',φ v w→ExtE w w'→φ v w')∧A φ∧K none φ)
theorem StepE.still {A:(Value→World→Prop)→Prop} {K:Option Value→(Value→World→Prop)→Prop} (v:Value) (h:A (fun u _=>u=v)) (hk:K (some v) (fun u _=>u=v)):StepE A K:=⟨.inl ⟨v,h,hk⟩⟩
theorem StepE.of {A:(Value→World→Prop)→Prop} {K:Option Value→(Value→World→Prop)→Prop} (φ:Value→World→Prop) (hs:∀ v w w',φ v w→ExtE w w'→φ v w') (h:A φ) (hk:K none φ):StepE A K:=⟨.inr ⟨φ,hs,h,hk⟩⟩
def regE (P:Program) (ops:List Oper) (w0:World) (Q:(Nat→Value)→World→Prop):List Oper→Nat→List (Nat × Nat × (Value→World→Prop))→(Nat→Value)→Prop
 | [],_,es,ρ=>∀ w,ExtE w0 w→allA es (idxs es) ρ w fun ρ'=>Q ρ' w
 | o::l,k,es,ρ=>StepE
   (fun φ=>∀ w,ExtE w0 w→allA es (qk o) ρ w fun ρ'=>qav P ops o ρ' w fun v w'=>ExtE w w'∧φ v w')
   (fun v φ=>regE P ops w0 Q l (k+1) (qo7 k φ es o.dst v) (updO ρ o.dst v))
structure EntOkE (e:Ent) (o:Oper):Prop where
 d:e.d=o.dst
 st:∀ v w w',e.φ v w→ExtE w w'→e.φ v w'
 v:∀ x,e.v=some x→∀ u w,e.φ u w→u=x
section
variable {P:Program} {n:Nat} {ops:List Oper} {w0:World}
theorem q29 {Q:(Nat→Value)→World→Prop} (l:List Oper):∀ (es:List (Nat × Nat × (Value→World→Prop))) (F:List Ent) (ρ0:Nat→Value),Agree es F→regE P ops w0 Q l F.length es (sfr F ρ0)→
  ∃ E:List Ent,E.length=l.length∧(∀ i o e,l[i]?=some o→E[i]?=some e→EntOkE e o∧
   ∀ w,ExtE w0 w→allv (F++E.take i) (qk o) (sfr (F++E.take i) ρ0) w fun ρ'=>qav P ops o ρ' w fun v w'=>ExtE w w'∧e.φ v w')∧
   ∃ ks:List Nat,(∀ k d φ,getL (F++E) k=some ⟨some d,none,φ⟩→k∈ks)∧∀ w,ExtE w0 w→allv (F++E) ks (sfr (F++E) ρ0) w fun ρ'=>Q ρ' w:=by
 induction l with
 | nil=>
  intro es F ρ0 hA h;refine ⟨[],rfl,fun i o e hi=>by simp at hi,idxs es,?_,?_⟩
  ·intro k d φ hk;rw [List.append_nil] at hk;have:=hA k;rw [hk] at this;exact qtl this
  ·intro w hw;rw [List.append_nil];exact qlx hA _ _ (h w hw)
 | cons o l ih=>
  intro es F ρ0 hAg h;have key:∀ (v:Option Value) (φ:Value→World→Prop),EntOkE ⟨o.dst,v,φ⟩ o→
    (∀ w,ExtE w0 w→allA es (qk o) (sfr F ρ0) w fun ρ'=>qav P ops o ρ' w fun v w'=>ExtE w w'∧φ v w')→
    regE P ops w0 Q l (F.length+1) (qo7 F.length φ es o.dst v) (updO (sfr F ρ0) o.dst v)→
    ∃ E:List Ent,E.length=(o::l).length∧(∀ i o' e,(o::l)[i]?=some o'→E[i]?=some e→EntOkE e o'∧
     ∀ w,ExtE w0 w→allv (F++E.take i) (qk o') (sfr (F++E.take i) ρ0) w fun ρ'=>qav P ops o' ρ' w fun v w'=>ExtE w w'∧e.φ v w')∧
     ∃ ks:List Nat,(∀ k d φ,getL (F++E) k=some ⟨some d,none,φ⟩→k∈ks)∧∀ w,ExtE w0 w→allv (F++E) ks (sfr (F++E) ρ0) w fun ρ'=>Q ρ' w:=fun v φ hok hA hK=>by
   have e1:updO (sfr F ρ0) o.dst v=sfr (F++[⟨o.dst,v,φ⟩]) ρ0:=by rw [qdi];rfl
   have e2:F.length+1=(F++[(⟨o.dst,v,φ⟩:Ent)]).length:=by simp
   rw [e1,e2] at hK;obtain ⟨E,h1,h2,ks,h3,h4⟩:=ih _ _ ρ0 (hAg.push o.dst v φ) hK;refine ⟨⟨o.dst,v,φ⟩::E,by simp [h1],fun i o' e hi he=>?_,ks,by simpa using h3,by simpa using h4⟩;cases i with
   | zero=>
    simp at hi he;subst hi he;refine ⟨hok,fun w hw=>?_⟩;rw [List.take_zero,List.append_nil];exact qlx hAg _ _ (hA w hw)
   | succ i=>
    simp at hi he;obtain ⟨k1,k2⟩:=h2 i o' e hi he;exact ⟨k1,by simpa using k2⟩
  obtain ⟨v,hA,hK⟩|⟨φ,hs,hA,hK⟩:=h.h
  ·exact key (some v) _ ⟨rfl,fun _ _ _ h _=>h,fun x hx u w hu=>by cases hx;exact hu⟩ hA hK
  ·exact key none φ ⟨rfl,hs,fun x hx=>by cases hx⟩ hA hK
end
structure InvE (n:Nat) (E:List Ent) (w0:World) (ρ:Nat→Value) (listed:Array Bool) (vals:Nat→Value) (ρa:Nat→Value) (a:Act) (w:World):Prop where
 ext:ExtE w0 w
 st:St n ρa a
 φ:∀ k,listed.getD k false=true→∀ e,E[k]?=some e→e.φ (vals k) w
 at_:∀ k,listed.getD k false=true→∀ e d,E[k]?=some e→e.d=some d→ρa d=vals k
 miss:∀ t,(∀ k,listed.getD k false=true→∀ e,E[k]?=some e→e.d≠some t)→ρa t=ρ t
section
variable {P:Program} {n:Nat} {ops:Array Oper} {w0:World} {E:List Ent} {ρ:Nat→Value}
theorem qol (hd:∀ (i:Nat) (o:Oper) (e:Ent),ops[i]?=some o→E[i]?=some e→EntOkE e o) (hl:E.length=ops.size) (hS:ShapeP n ops) {listed:Array Bool} {vals ρa:Nat→Value} {a:Act} {w:World} (I:InvE n E w0 ρ listed vals ρa a w)
  (i:Nat) (ks:List Nat) (t:Nat) (h1:∀ (k:Nat) (e:Ent),E[k]?=some e→e.d=some t→k<i→listed.getD k false=true∧(e.v=none→k∈ks)) (h2:∀ (k:Nat) (e:Ent),E[k]?=some e→e.d=some t→listed.getD k false=true→k<i) :
  fr (E.take i) vals ks (sfr (E.take i) ρ) t=ρa t:=by
 have op_of:∀ (k:Nat) (e:Ent),E[k]?=some e→∃ o,ops[k]?=some o∧EntOkE e o:=fun k e hk=>by
  have hlt:k<ops.size:=by
   rw [← hl]
   rcases Nat.lt_or_ge k E.length with h|h
   ·exact h
   ·rw [List.getElem?_eq_none h] at hk;cases hk
  exact ⟨ops[k],Array.getElem?_eq_getElem hlt,hd k _ e (Array.getElem?_eq_getElem hlt) hk⟩
 have uniq:∀ (k k':Nat) (e e':Ent),E[k]?=some e→E[k']?=some e'→e.d=some t→e'.d=some t→k'=k:=fun k k' e e' hk hk' hd1 hd2=>by
  obtain ⟨o,ho,hok⟩:=op_of k e hk;obtain ⟨o',ho',hok'⟩:=op_of k' e' hk';exact hS.uniq k o k' o' t ho ho' (hok'.d ▸ hd2) (hok.d ▸ hd1)
 have inE:∀ (k:Nat) (e:Ent),getL (E.take i) k=some e→E[k]?=some e∧k<i:=fun k e hk=>by
  rw [qg,List.getElem?_take] at hk
  split at hk
  ·exact ⟨hk,by assumption⟩
  ·cases hk
 by_cases hex:∃ (k:Nat) (e:Ent),E[k]?=some e∧e.d=some t∧k<i
 ·obtain ⟨k,e,hk,hdt,hki⟩:=hex;obtain ⟨hlis,hks⟩:=h1 k e hk hdt hki;obtain ⟨o,ho,hok⟩:=op_of k e hk;have hra:=I.at_ k hlis e t hk hdt;have hmem:e∈E.take i:=zmg (i:=k) (by rw [List.getElem?_take,if_pos hki];exact hk);have huE:∀ e'∈E.take i,e'.d=some t→e'=e:=fun e' he' hd'=>by
   obtain ⟨k',hk'⟩:=List.mem_iff_getElem?.1 he';have hk'':=(inE k' e' (by rw [qg];exact hk')).1;have:=uniq k k' e e' hk hk'' hdt hd';subst this;rw [hk] at hk'';exact (Option.some.inj hk'').symm
  cases hv:e.v with
  | some x=>
   have hx:vals k=x:=hok.v x hv _ _ (I.φ k hlis e hk);rw [qhj,qro _ _ (fun e' he' hd'=>by rw [huE e' he' hd'];exact hv) (.inr ⟨e,hmem,hdt⟩),hra,hx];intro k' _ φ hk';have:=huE _ (zmg (i:=k') (by rw [qg] at hk';exact hk')) rfl;rw [← this] at hv;cases hv
  | none=>
   obtain ⟨ed,ev,eφ⟩:=e;simp only at hdt hv;subst hdt hv;rw [qx9 (k0:=k) rfl (fun k' φ hk'=>?_) _ _ (.inr ⟨hks rfl,eφ,by rw [qg,List.getElem?_take,if_pos hki];exact hk⟩),hra];exact uniq k k' _ _ hk (inE k' _ hk').1 rfl rfl
 ·have hno:∀ k e,E[k]?=some e→k<i→e.d≠some t:=fun k e hk hki hd=>hex ⟨k,e,hk,hd,hki⟩
  rw [qhj,qnk]
  ·refine (I.miss t fun k hk e he hd=>?_).symm;exact hno k e he (h2 k e he hd hk) hd
  ·intro e he hd;obtain ⟨k',hk'⟩:=List.mem_iff_getElem?.1 he;obtain ⟨h3,h4⟩:=inE k' e (by rw [qg];exact hk');exact absurd hd (hno k' e h3 h4)
  ·intro k' _ φ hk';obtain ⟨h3,h4⟩:=inE k' _ hk';exact hno k' _ h3 h4 rfl
theorem qsb {Q:(Nat→Value)→World→Prop} {Q':Exit→Act→World→Prop} (hQ:∀ ρ a w,St n ρ a→Q ρ w→Q' .normal a w) (hS:ShapeP n ops) (hl:E.length=ops.size)
  (hE:∀ (i:Nat) (o:Oper) (e:Ent),ops[i]?=some o→E[i]?=some e→EntOkE e o∧
   ∀ w,ExtE w0 w→allv (E.take i) (qk o) (sfr (E.take i) ρ) w fun ρ'=>qav P ops.toList o ρ' w fun v w'=>ExtE w w'∧e.φ v w')
  (hF:∃ ks:List Nat,(∀ k d φ,getL E k=some ⟨some d,none,φ⟩→k∈ks)∧∀ w,ExtE w0 w→allv E ks (sfr E ρ) w fun ρ'=>Q ρ' w) :
  ∀ (fuel:Nat) (listed:Array Bool) (vals ρa:Nat→Value) (a:Act) (w:World),listed.size=ops.size→listed.toList.count false≤fuel→InvE n E w0 ρ listed vals ρa a w→wpAny P .any ops Q' fuel listed a w:=by
 obtain ⟨ks,hks,hF⟩:=hF;have hd:∀ (i:Nat) (o:Oper) (e:Ent),ops[i]?=some o→E[i]?=some e→EntOkE e o:=fun i o e h1 h2=>(hE i o e h1 h2).1
 have hlt:∀ (k:Nat) (e:Ent),E[k]?=some e→k<ops.size:=fun k e hk=>by
  rw [← hl]
  rcases Nat.lt_or_ge k E.length with h|h
  ·exact h
  ·rw [List.getElem?_eq_none h] at hk;cases hk
 have final:∀ (listed:Array Bool) (vals ρa:Nat→Value) (a:Act) (w:World),(∀ k,k<ops.size→listed.getD k false=true)→InvE n E w0 ρ listed vals ρa a w→Q' .normal a w:=fun listed vals ρa a w hall I=>by
  have h:=qg6 (vals:=vals) _ _ (fun k _ e hk=>by
   rw [qg] at hk;exact I.φ k (hall k (hlt k e hk)) e hk) (hF w I.ext)
  have he:fr E vals ks (sfr E ρ)=ρa:=by
   funext t
   have:=qol hd hl hS I E.length ks t (fun k e hk hdt hki=>⟨hall k (hlt k e hk),fun hv=>hks k t e.φ (by
    obtain ⟨ed,ev,eφ⟩:=e;simp only at hdt hv;subst hdt hv;rw [qg];exact hk)⟩) (fun k e hk _ _=>by rw [hl];exact hlt k e hk)
   rwa [List.take_length] at this
  rw [he] at h;exact hQ _ _ _ I.st h
 have nodone:∀ (listed:Array Bool),listed.size=ops.size→Region.ready .any ops listed=[]→∀ k,k<ops.size→listed.getD k false=true:=fun listed hsz hr k hk=>by
  induction k using Nat.strongRecOn with
  | _ k ih=>
   cases hv:listed.getD k false with
   | true=>rfl
   | false=>
    exfalso
    have hmem:k∈Region.ready .any ops listed:=by
     refine mem_ready.2 ⟨?_,ops[k],Array.getElem?_eq_getElem hk,fun e he hb=>?_⟩
     ·have:k<listed.size:=by omega
      simp [this] at hv ⊢;exact hv
     ·rw [qaj] at hb;have hp:e.on∈qk ops[k]:=qv.2 ⟨e,by simpa using he,hb,rfl⟩;have h1:=hS.lt k _ (Array.getElem?_eq_getElem hk) _ hp;exact ih _ h1 Oo
    rw [hr] at hmem;cases hmem
 intro fuel
 induction fuel with
 | zero=>
  intro listed vals ρa a w hsz hc I;have hall:∀ k,k<ops.size→listed.getD k false=true:=fun k hk=>by
   have h0:listed.toList.count false=0:=by omega
   have h1:=List.count_eq_zero.1 h0;have hk':k<listed.size:=by omega
   cases hv:listed[k] with
   | true=>simp [hk',hv]
   | false=>exact absurd (by rw [← hv];exact Array.mem_toList_iff.2 (Array.getElem_mem hk')) h1
  refine ⟨?_,final listed vals ρa a w hall I⟩;rw [List.eq_nil_iff_forall_not_mem];intro j hj;obtain ⟨h1,o,ho,_⟩:=mem_ready.1 hj;have h2:=hall j (Array.getElem?_eq_some_iff.1 ho).1;have hk':j<listed.size:=by have:=(Array.getElem?_eq_some_iff.1 ho).1;omega
  simp [hk'] at h1 h2;rw [h1] at h2;cases h2
 | succ fuel ih=>
  intro listed vals ρa a w hsz hc I;refine ⟨fun hr=>final listed vals ρa a w (nodone listed hsz hr) I,fun i hi=>?_⟩;obtain ⟨hun,o,ho,hall⟩:=mem_ready.1 hi;have hio:i<ops.size:=(Array.getElem?_eq_some_iff.1 ho).1;have hiE:i<E.length:=by omega
  obtain ⟨hok,hspec⟩:=hE i o E[i] ho (zge hiE);have hpl:∀ k∈qk o,listed.getD k false=true:=fun k hk=>by
   obtain ⟨e,he,hb,hon⟩:=qv.1 hk;rw [← hon];exact hall e (by simpa using he) (by rw [qaj];exact hb)
  have h:=qg6 (vals:=vals) _ _ (fun k hk e he=>by
   rw [qg,List.getElem?_take,if_pos (hS.lt i o ho k hk)] at he;exact I.φ k (hpl k hk) e he) (hspec w I.ext)
  have hag:∀ t∈o.looksAt ops,fr (E.take i) vals (qk o) (sfr (E.take i) ρ) t=ρa t:=fun t ht=>by
   have hp:∀ (k:Nat) (e:Ent),E[k]?=some e→e.d=some t→k∈qk o:=fun k e hk hdt=>by
    have hk':=hlt k e hk;exact hS.look i o k ops[k] t ho (Array.getElem?_eq_getElem hk') ((hd k _ e (Array.getElem?_eq_getElem hk') hk).d ▸ hdt) ht
   exact qol hd hl hS I i (qk o) t (fun k e hk hdt _=>⟨hpl k (hp k e hk hdt),fun _=>hp k e hk hdt⟩) (fun k e hk hdt _=>hS.lt i o ho k (hp k e hk hdt))
  refine qdf ho hS I.st hag h fun v w' ⟨hx,hφ⟩=>?_;have hgd:∀ k,(listed.setIfInBounds i true).getD k false=true→k=i∨(k≠i∧listed.getD k false=true):=fun k hk=>by
   by_cases hki:k=i
   ·exact .inl hki
   ·rw [getD_set_ne false (fun e=>hki e.symm)] at hk;exact .inr ⟨hki,hk⟩
  have hnl:listed.getD i false=false:=by
   have:i<listed.size:=by omega
   simp [this] at hun ⊢;exact hun
  refine ih _ (fun k=>if k=i then v else vals k) (match o.dst with|some d=>upd ρa d v|none=>ρa) _ _ (by simp [hsz]) (by have:=countP_set listed i hun;omega) ⟨I.ext.trans hx,?_,?_,?_,?_⟩
  ·cases hdd:o.dst with
   | none=>exact I.st
   | some d=>exact I.st.put (hS.dn i o ho d hdd) v
  ·intro k hk e he
   rcases hgd k hk with rfl|⟨hki,hk⟩
   ·rw [zge hiE] at he;cases he
    simpa using hφ
   ·simp only [if_neg hki];have hk':=hlt k e he;exact (hd k _ e (Array.getElem?_eq_getElem hk') he).st _ _ _ (I.φ k hk e he) hx
  ·intro k hk e d he hdd
   rcases hgd k hk with rfl|⟨hki,hk⟩
   ·rw [zge hiE] at he;cases he;rw [hok.d] at hdd;simp [hdd,qc8]
   ·simp only [if_neg hki];have hk':=hlt k e he;have hd2:=(hd k _ e (Array.getElem?_eq_getElem hk') he).d;cases ho2:o.dst with
    | none=>exact I.at_ k hk e d he hdd
    | some d2=>
     have hne:d≠d2:=by
      rintro rfl;exact hki (hS.uniq i o k _ d ho (Array.getElem?_eq_getElem hk') (hd2 ▸ hdd) ho2)
     simp only;rw [qah _ _ _ _ hne];exact I.at_ k hk e d he hdd
  ·intro t ht;have h1:ρa t=ρ t:=I.miss t fun k hk e he=>ht k (by
    by_cases hki:k=i
    ·subst hki;rw [hnl] at hk;cases hk
    ·rw [getD_set_ne false (fun e=>hki e.symm)];exact hk) e he
   cases ho2:o.dst with
   | none=>exact h1
   | some d2=>
    have hne:t≠d2:=by
     rintro rfl;refine ht i ?_ E[i] (zge hiE) (by rw [hok.d,ho2]);have:i<listed.size:=by omega
     simp [this]
    simp only;rw [qah _ _ _ _ hne];exact h1
end
theorem DrawV.freeE {P:Program} {n id:Nat} {ops:Array Oper} {Q:Exit→(Nat→Value)→World→Prop} {ρ:Nat→Value} {w:World} (hm:P.follows .mixedOrders=true) (hB:qia n ops=true)
  (h:regE P ops.toList w.drew (fun ρ' w'=>Q .normal ρ' w') ops.toList 0 [] ρ):DrawV P n id ops Q ρ w:=by
 refine ⟨fun a ha=>wp_region_any hm ?_⟩;obtain ⟨E,h1,h2,h3⟩:=q29 ops.toList [] [] ρ (fun k=>rfl) h;refine qsb (Q:=fun ρ' w'=>Q .normal ρ' w') (E:=E) (w0:=w.drew) (ρ:=ρ) (fun ρ a w h1 h2=>⟨ρ,h1,h2⟩) (qdj hB) (by simpa using h1) (fun i o e ho he=>?_) (by simpa using h3) _ _ (fun _=>undef) ρ a _ Js Js ⟨ExtE.refl _,ha,?_,?_,fun t _=>rfl⟩
 ·have:=h2 i o e (by simpa using ho) he
  simpa using this
 ·intro k hk;rw [qc] at hk;cases hk
 ·intro k hk;rw [qc] at hk;cases hk
end V
end Go.Proofs.YtacnkdagblbgfaaGreatDoor
namespace Go.Proofs
open YtacnkdagblbgfaaGreatDoor YtacnkdagblbgfaaGreatDoor.V
open Go.Shelf
def Tryz.srt_ren:Go.Shelf.Ren:=⟨fun|6=>208|15=>264|14=>263|28=>312|29=>165|20=>304|21=>305|22=>306|23=>307|24=>308|25=>309|26=>310|27=>311|46=>328|47=>329|48=>330|49=>331|50=>332|57=>341|n=>n,fun|22=>97|24=>24|25=>135|3=>3|39=>212|0=>0|53=>129|55=>125|4=>4|46=>399|45=>398|50=>88|5=>5|9=>9|66=>413|70=>65|76=>423|77=>137|n=>n,fun|n=>n⟩
theorem Tryz.srt:Go.Proofs.SlLaysF0.n6 Tryz.prog Tryz.srt_ren:={
 mixed:=by kernel_rfl
 f6:=⟨Tryz.f208.name,by decide,Tryz.func208.trans (congrArg some Ok)⟩
 f14:=⟨Tryz.f263.name,by decide,Tryz.func263.trans (congrArg some Ok)⟩
 f15:=Tryz.func264.trans (congrArg some Ok)
 f20:=⟨Tryz.f304.name,by decide,Tryz.func304.trans (congrArg some Ok)⟩
 f21:=⟨Tryz.f305.name,by decide,Tryz.func305.trans (congrArg some Ok)⟩
 f22:=⟨Tryz.f306.name,by decide,Tryz.func306.trans (congrArg some Ok)⟩
 f23:=⟨Tryz.f307.name,by decide,Tryz.func307.trans (congrArg some Ok)⟩
 f24:=⟨Tryz.f308.name,by decide,Tryz.func308.trans (congrArg some Ok)⟩
 f25:=⟨Tryz.f309.name,by decide,Tryz.func309.trans (congrArg some Ok)⟩
 f26:=⟨Tryz.f310.name,by decide,Tryz.func310.trans (congrArg some Ok)⟩
 f27:=⟨Tryz.f311.name,by decide,Tryz.func311.trans (congrArg some Ok)⟩
 f28:=Tryz.func312.trans (congrArg some Ok)
 f29:=Tryz.func165.trans (congrArg some Ok)
 f46:=⟨Tryz.f328.name,by decide,Tryz.func328.trans (congrArg some Ok)⟩
 f47:=Tryz.func329.trans (congrArg some Ok)
 f48:=Tryz.func330.trans (congrArg some Ok)
 f49:=⟨Tryz.f331.name,by decide,Tryz.func331.trans (congrArg some Ok)⟩
 f50:=⟨Tryz.f332.name,by decide,Tryz.func332.trans (congrArg some Ok)⟩
 f57:=⟨Tryz.f341.name,by decide,Tryz.func341.trans (congrArg some Ok)⟩
 t0:=Tryz.underlying0
 a0:=Tryz.isAgg0
 z0:=Tryz.sizeOf0
 v0:=Tryz.zeroValue0
 t3:=Tryz.underlying3
 a3:=Tryz.isAgg3
 z3:=Tryz.sizeOf3
 v3:=Tryz.zeroValue3
 t4:=Tryz.underlying4
 a4:=Tryz.isAgg4
 z4:=Tryz.sizeOf4
 v4:=Tryz.zeroValue4
 t5:=Tryz.underlying5
 a5:=Tryz.isAgg5
 z5:=Tryz.sizeOf5
 v5:=Tryz.zeroValue5
 t9:=Tryz.underlying9
 a9:=Tryz.isAgg9
 z9:=Tryz.sizeOf9
 v9:=Tryz.zeroValue9
 t22:=Tryz.underlying97
 a22:=Tryz.isAgg97
 z22:=Tryz.sizeOf97
 v22:=Tryz.zeroValue97
 t25:=Tryz.underlying135
 a25:=Tryz.isAgg135
 z25:=Tryz.sizeOf135
 v25:=Tryz.zeroValue135
 t39:=Tryz.underlying212
 a39:=Tryz.isAgg212
 z39:=Tryz.sizeOf212
 v39:=Tryz.zeroValue212
 t45:=Tryz.underlying398
 a45:=Tryz.isAgg398
 z45:=Tryz.sizeOf398
 v45:=Tryz.zeroValue398
 t46:=Tryz.underlying399
 a46:=Tryz.isAgg399
 z46:=Tryz.sizeOf399
 v46:=Tryz.zeroValue399
 t50:=Tryz.underlying88
 a50:=Tryz.isAgg88
 z50:=Tryz.sizeOf88
 v50:=Tryz.zeroValue88
 t53:=Tryz.underlying129
 a53:=Tryz.isAgg129
 z53:=Tryz.sizeOf129
 v53:=Tryz.zeroValue129
 t55:=Tryz.underlying125
 a55:=Tryz.isAgg125
 z55:=Tryz.sizeOf125
 v55:=Tryz.zeroValue125
 t66:=Tryz.underlying413
 a66:=Tryz.isAgg413
 z66:=Tryz.sizeOf413
 v66:=Tryz.zeroValue413
 t70:=Tryz.underlying65
 a70:=Tryz.isAgg65
 z70:=Tryz.sizeOf65
 v70:=Tryz.zeroValue65
 t76:=Tryz.underlying423
 a76:=Tryz.isAgg423
 z76:=Tryz.sizeOf423
 v76:=Tryz.zeroValue423
 t77:=Tryz.underlying137
 a77:=Tryz.isAgg137
 z77:=Tryz.sizeOf137
 v77:=Tryz.zeroValue137 }
end Go.Proofs
