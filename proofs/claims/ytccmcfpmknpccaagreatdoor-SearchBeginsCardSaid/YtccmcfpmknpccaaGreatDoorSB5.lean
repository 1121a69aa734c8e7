/- Lemmas and contracts of functions on the way to the law's card (part 5 of 16). -/
import Derived.Test.YtccmcfpmknpccaaGreatDoorSB4
import Derived.Lib.BitFns
namespace Go.Proofs.YtccmcfpmknpccaaGreatDoor
set_option maxHeartbeats 8000000
open Go.RowKit V
set_option maxHeartbeats 8000000
set_option maxRecDepth 100000
variable {P:De} {w w' w0:Dc} {a b c g i j k m most off:Nat} {cur:Dp} {vs:Dm} {ahead d l s:LB} {A:oA} {e:Df} {L:Dl} {mx:Option Dh}
namespace V
theorem StoreA.same{t:Df}{K:Dk}(O:w.heap[b]?=some (.cells cur t))(U:vs=cur.toList)(W:∀v∈vs,v.oneCell'=true)(Z:∀w',Ext w w'->K w'):StoreA P w b 0 vs K:=by
 subst U;have H:=run_storeCells_at P b 0 t cur.toList 0 cur w O Js W;have ec:(cur.toList.take (0+0)++cur.toList++cur.toList.drop (0+0+cur.toList.length)).toArray=cur:=by
  grind
 rw[ec]at H;refine⟨_,H,Z _ ⟨rfl,rfl,rfl,by simp,λk _=>?_⟩⟩
 grind [qb2,qp]
theorem BS.rest(H:SlAt encB 1 w (some ⟨g,off,none⟩) l)(O:l.length<=c)(U:a<l.length):BS w (.slice (some ⟨g,off+a,none⟩) (l.length-a) (c-a)) (l.drop a):=by
 refine⟨_,c-a,by rw[zld],by grind,?_⟩;have:=H.cut (A':=some ⟨g,off+a,none⟩) (lo:=a) (hi:=l.length) (m:=c) Oo Oo O (by grind [q7])
 grind [List.take_of_length_le]
theorem SliceV.rest{n:Nat}{H:Option Dh}{K:Dh->Prop}(a:Nat)(O:bnd H 0 a)(U:n<=c)(W:a<n)(Z:K (.slice (some ⟨g,off+a,none⟩) (n-a) (c-a))):SliceV 1 (some ⟨g,off,none⟩) n c H none none K:=by
 refine⟨a,n,c,O,rfl,rfl,by omega,U,Ao _,Js,λA' e=>?_⟩
 grind [q7]
structure CurAt(wd w:Dc)(v:Dh)(o:Obj):Prop where
 h:∃b,v=pp b/\wd.heap.size<=b/\w.heap[b]?=some o
structure Two(wd:Dc)(o1 o2:Obj)(F:Dk)(s2 s5 s6 s12 s13 s17:Bool)(v5 v12:Dh)(w:Dc):Prop where
 a:s17=false->Ext wd w/\(s5=true->s6=false->CurAt wd w v5 o1)/\(s12=true->s13=false->CurAt wd w v12 o2)
 d:s6=true->s5=true
 e:s12=true->s6=true
 f:s17=true->F w/\s2=true/\s5=true/\s6=true/\s12=true/\s13=true
section
variable {wd w w':Dc} {o1 o2:Obj} {F:Dk} {s2 s5 s6 s12 s13 s17:Bool} {v5 v12 v:Dh}
theorem Two.start:Two wd o1 o2 F false false false false false false v5 v12 wd:=⟨(by grind [Ext.refl]),Js,Js,Js⟩
theorem Two.read1(h:Two wd o1 o2 F s2 false s6 s12 s13 s17 v5 v12 w)(W:Ext w w')(Z:∃b,v=pp b/\w.heap.size<=b/\w'.heap[b]?=some o1):Two wd o1 o2 F s2 true s6 s12 s13 s17 v v12 w':=by
 have h6:s6=false:=by
  cases H:s6
  ·rfl
  ·have:=h.d H;cases this
 have O:s17=false:=by
  cases H:s17
  ·rfl
  ·have:=(h.f H).2.2.1;cases this
 obtain⟨U,a2,a3⟩:=h.a O;obtain⟨b,rfl,hb,hc⟩:=Z;have aa:s12=false:=by
  cases H:s12
  ·rfl
  ·have:=h.e H;simp_all
 exact⟨λ_=>⟨U.trans W,λ_ _=>⟨b,rfl,A4 U.size hb,hc⟩,(by grind)⟩,λ_=>rfl,h.e,(by grind)⟩
theorem Two.cur1(h:Two wd o1 o2 F s2 s5 false s12 s13 s17 v5 v12 w)(U:s5=true):Ext wd w/\CurAt wd w v5 o1:=by
 have H:s17=false:=by
  cases O:s17
  ·rfl
  ·have:=(h.f O).2.2.2.1;cases this
 obtain⟨W,Z,a3⟩:=h.a H
 simp_all
theorem Two.fix1{U H:Dh}(h:Two wd o1 o2 F s2 s5 false s12 s13 s17 v5 v12 w)(W:s5=true)(he:Ext wd w'):Two wd o1 o2 F s2 s5 true s12 s13 s17 U H w':=by
 have Z:s17=false:=by
  cases O:s17
  ·rfl
  ·have:=(h.f O).2.2.2.1;cases this
 have aa:s12=false:=by
  cases O:s12
  ·rfl
  ·have:=h.e O;cases this
 exact⟨(by grind),λ_=>W,λ_=>rfl,(by grind)⟩
theorem Two.ext2(h:Two wd o1 o2 F s2 s5 s6 false s13 s17 v5 v12 w):Ext wd w:=by
 have H:s17=false:=by
  cases O:s17
  ·rfl
  ·have:=(h.f O).2.2.2.2.1;cases this
 exact(h.a H).1
theorem Two.ext1(h:Two wd o1 o2 F s2 false s6 s12 s13 s17 v5 v12 w):Ext wd w:=by
 have H:s17=false:=by
  cases O:s17
  ·rfl
  ·have:=(h.f O).2.2.1;cases this
 exact(h.a H).1
theorem Two.ext0(h:Two wd o1 o2 F false s5 s6 s12 s13 s17 v5 v12 w):Ext wd w:=by
 have H:s17=false:=by
  cases O:s17
  ·rfl
  ·have:=(h.f O).2.1;cases this
 exact(h.a H).1
theorem Two.load(h:Two wd o1 o2 F false s5 s6 s12 s13 s17 v5 v12 w):Two wd o1 o2 F true s5 s6 s12 s13 s17 v5 v12 w:=by
 have H:s17=false:=by
  cases O:s17
  ·rfl
  ·have:=(h.f O).2.1;cases this
 exact⟨h.a,h.d,h.e,(by grind)⟩
theorem Two.read2(h:Two wd o1 o2 F s2 s5 s6 false s13 s17 v5 v12 w)(U:s6=true)(W:Ext w w')(Z:∃b,v=pp b/\w.heap.size<=b/\w'.heap[b]?=some o2):Two wd o1 o2 F s2 s5 s6 true s13 s17 v5 v w':=by
 have H:s17=false:=by
  cases h':s17
  ·rfl
  ·have:=(h.f h').2.2.2.2.1;cases this
 obtain⟨O,a2,a3⟩:=h.a H;obtain⟨b,rfl,hb,hc⟩:=Z;exact⟨λ_=>⟨O.trans W,(by grind),λ_ _=>⟨b,rfl,A4 O.size hb,hc⟩⟩,h.d,λ_=>U,(by grind)⟩
theorem Two.cur2(h:Two wd o1 o2 F s2 s5 s6 s12 false s17 v5 v12 w)(O:s12=true):Ext wd w/\CurAt wd w v12 o2:=by
 have H:s17=false:=by
  cases U:s17
  ·rfl
  ·have:=(h.f U).2.2.2.2.2;cases this
 obtain⟨W,Z,a3⟩:=h.a H
 simp_all
theorem Two.fix2(h:Two wd o1 o2 F s2 s5 s6 s12 false s17 v5 v12 w)(H:s12=true)(W:Ext wd w'){Z O:Dh}:Two wd o1 o2 F s2 s5 s6 s12 true s17 Z O w':=by
 have aa:s17=false:=by
  cases h':s17
  ·rfl
  ·have:=(h.f h').2.2.2.2.2;cases this
 exact⟨λ_=>⟨W,λ_ U=>(by rw[h.e H]at U;cases U),Js⟩,h.d,h.e,(by grind)⟩
end
end V
def hN(l:LB)(k:Nat):Nat:=leN ((l.drop (4*k)).take 4)
def qb0(l:LB):Nat×Nat:=
 if l.length<28 then(l.length,10)else if hN l 0≠1095914324 then(0,190)else if hN l 6≠(crcL (l.take 24)).toNat then(24,30)else if hN l 1≠1 then(4,191)
 else if 67108864<hN l 4+hN l 5+36 then(0,2)else if l.length<hN l 4+hN l 5+36 then(l.length,10)else if hN l 4+hN l 5+36<l.length then(hN l 4+hN l 5+36,13)else(0,0)
def zF:Dm:=[ii 0,ii 0,ii 0,ii 0,.slice none 0 0,.slice none 0 0,ii 0,ii 0,.int .u32 0,.int .u32 0]
def okF(l:LB)(A B:oA):Dm:=[ii (hN l 2),ii (hN l 3),ii (hN l 4),ii (hN l 5),.slice A (hN l 4) (hN l 4),.slice B (hN l 5) (hN l 5),ii 28,ii (32+hN l 4:Nat),
 .int .u32 (leN ((l.drop (28+hN l 4)).take 4)),.int .u32 (leN ((l.drop (32+hN l 4+hN l 5)).take 4))]
theorem qabe(l:LB)(k:Nat):hN l k<4294967296:=by
 have:=qyz ((l.drop (4*k)).take 4);have H:((l.drop (4*k)).take 4).length<=4:=by simp;omega
 have O:256 ^ ((l.drop (4*k)).take 4).length<=256 ^ 4:=AQ Od H
 grind [hN]
def nsL(l:LB)(i:Nat):Dm:=(List.range 7).map λk=>Value.int .u64 ((if k<i then hN l k else 0:Nat):Int)
theorem q8m(l:LB)(i:Nat)(H:i<7):(nsL l i).toArray.setIfInBounds i (.int .u64 (hN l i))=(nsL l (i+1)).toArray:=by
 rw[<-Br];simp only[BQ];apply Bi
 grind [nsL]
theorem qup(h:(qb0 l).2=0):28<=l.length/\hN l 0=1095914324/\hN l 6=(crcL (l.take 24)).toNat/\hN l 1=1/\hN l 4+hN l 5+36<=67108864/\l.length=hN l 4+hN l 5+36:=by
 unfold qb0 at h
 iterate 7
  split at h
  ·cases h
 exact⟨by omega,by omega,by omega,by omega,by omega,by omega⟩
theorem qx2(l:LB)(A:oA)(c:Nat)(w:Dc)(hS:SlAt encB 1 w A l)(hc:l.length<=c)(hl:l.length<=140737488355328)(hT:CellsAt w 3 0 qg6)(h0:(qb0 l).2=0):
  Gv Do 93 [.slice A l.length c] w λv w'=>(∃A B,v=.tuple #[.agg (okF l A B).toArray,.nilIface]/\SlAt encB 1 w' A ((l.drop 28).take (hN l 4))/\SlAt encB 1 w' B ((l.drop (32+hN l 4)).take (hN l 5)))/\Ext w w':=by
 obtain⟨a0,a1,a2,a3,a4,a5⟩:=qup h0;refine ze Tryz.func93 Tryz.ntmps93 ?_;refine znm (Mem.nil w) ?_;intro r w1 H;have H:Mem w w1 [(r,.cells zF.toArray 182)]:=H;refine zu ?_;have W:∀k,hN l k<4294967296:=λk=>qabe l k
 refine znm H λnb w2 H=>zw ?_;have hv:BS w2 (.slice A l.length c) l:=⟨A,c,rfl,hc,hS.ext H.ext⟩
 refine zcv (qdj _ l w2 hv) ?_;rintro v w3 ⟨cb,rfl,an,ao,aq⟩;have H:=H.fresh aq an ao;(conv=>whnf);refine qm (λi:Nat=>[(0,.slice A l.length c),(2,pp r),(3,.nilIface),(4,pp nb),(5,pp cb),(17,ii i)])
  (λi w4=>i<=7/\Mem w w4 [(cb,curO 367 (.slice A l.length c) (4*i) 0),(nb,.cells (nsL l i).toArray 278),(r,.cells zF.toArray 182)]) (λi=>7-i) 0 fq ⟨by omega,H⟩ ?_
 clear H;rintro i w4 a6 ⟨i1,H⟩;(conv=>whnf);refine zC (λ_=>zw ?_) (λ_=>zw ?_)
 ·have hv:BS w4 (.slice A l.length c) l:=⟨A,c,rfl,hc,hS.ext H.ext⟩
  refine zcv (qgw cb _ (4*i) l w4 (H.get mh) hv Oo hl) ?_;rintro v w5 ⟨rfl,hu⟩;have H:Mem w w5 [(cb,curO 367 (.slice A l.length c) (4*(i+1)) 0),(nb,.cells (nsL l i).toArray 278),(r,.cells zF.toArray 182)]:=H.upd (i:=0) rfl hu;(conv=>whnf);refine IdxV.nat Oo (zw ?_);refine StoreV.mem H (i:=1) rfl (by rw[show tsz Do 164=1 from by kernel_rfl];simp[nsL];omega) rfl λw6 H=>zu ?_;refine⟨i+1,fq,⟨by omega,?_⟩,by omega⟩;have e:=q8m l i Oo;rw[<-e];have e2:0+i*tsz Do 164=i:=by rw[show tsz Do 164=1 from by kernel_rfl];omega
  rw[e2]at H;exact H
 have ar:i=7:=by omega
 subst ar;have H:Mem w w4 [(cb,curO 367 (.slice A l.length c) 28 0),(nb,.cells #[.int .u64 (hN l 0),.int .u64 (hN l 1),.int .u64 (hN l 2),.int .u64 (hN l 3),.int .u64 (hN l 4),.int .u64 (hN l 5),.int .u64 (hN l 6)] 278),(r,.cells zF.toArray 182)]:=H;have g0:=W 0;have g1:=W 1;have g2:=W 2;have g3:=W 3;have g4:=W 4;have g5:=W 5;have g6:=W 6;refine IdxV.at_ 4 rfl Od (zw ?_);refine zr H 1 ?_;refine IdxV.at_ 5 rfl Od (zw ?_);refine zr H 1 ?_;refine zv ?_;have au:(hN l 4:Int)+(hN l 5:Int)+28+8=((hN l 4+hN l 5+36:Nat):Int):=by omega
 rw[au];refine IdxV.at_ 0 rfl Od (zw ?_);refine zr H 1 ?_;refine zv ?_;have H:=H.drew;refine zy ?_;refine IdxV.at_ 6 rfl Od (zw ?_);refine zt ?_;refine LoadV.mem (i:=1) Oa rfl rfl (zw ?_);refine zt ?_;refine SliceV.bs (hS.ext H.ext) rfl 0 24 c rfl rfl rfl Oo Oo Oo znr (λ_=>rfl) ?_;intro A1 ae;rw[B7]at ae;refine zu ?_;refine⟨.int .u32 (crcL (l.take 24)).toNat,q04 (l.take 24) A1 _ _ _ ae Ys Ys (hT.ext H.ext),?_⟩;refine zu ?_;refine IdxV.at_ 1 rfl Od (zw ?_);refine zr H 1 ?_;refine zv ?_;refine IdxV.at_ 2 rfl Od (zw ?_);refine zr H 1 ?_;refine zv ?_;refine IdxV.at_ 3 rfl Od (zw ?_);refine zr H 1 ?_;refine zv ?_;refine IdxV.at_ 4 rfl Od (zw ?_);refine zr H 1 ?_;refine zv ?_;refine IdxV.at_ 5 rfl Od (zw ?_);refine zr H 1 ?_;refine zv ?_;refine StoreA.mem H (i:=2) rfl (show 0+4<=10 by decide) (by intro v hv;simp at hv;rcases hv with rfl|rfl|rfl|rfl<;>rfl) ?_;intro w5 H;have H:Mem w w5 [_,_,(r,.cells #[ii (hN l 2),ii (hN l 3),ii (hN l 4),ii (hN l 5),.slice none 0 0,.slice none 0 0,ii 0,ii 0,.int .u32 0,.int .u32 0] 182)]:=H;(conv=>whnf);refine StoreV.mem H (i:=2) rfl (show 6<10 by decide) rfl ?_;intro w6 H;have H:Mem w w6 [_,_,(r,.cells #[ii (hN l 2),ii (hN l 3),ii (hN l 4),ii (hN l 5),.slice none 0 0,.slice none 0 0,ii 28,ii 0,.int .u32 0,.int .u32 0] 182)]:=H;(conv=>whnf);refine IdxV.at_ 4 rfl Od (zw ?_);refine zr H 1 ?_;refine zv ?_;refine StoreV.mem H (i:=2) rfl (show 7<10 by decide) rfl ?_;intro w7 H;have H:Mem w w7 [_,_,(r,.cells #[ii (hN l 2),ii (hN l 3),ii (hN l 4),ii (hN l 5),.slice none 0 0,.slice none 0 0,ii 28,ii (28+(hN l 4:Int)+4),.int .u32 0,.int .u32 0] 182)]:=H;have av:28+(hN l 4:Int)+4=((32+hN l 4:Nat):Int):=by omega
 rw[av]at H;(conv=>whnf);refine zr H 2 ?_;refine zr H 2 ?_;refine zt ?_;refine LoadV.mem (i:=2) Oa rfl rfl (zw ?_);refine zt ?_;refine SliceV.bs hS rfl 28 (28+hN l 4) (28+hN l 4) rfl (by show((32+hN l 4:Nat):Int)-4=((28+hN l 4:Nat):Int);omega) (by show((32+hN l 4:Nat):Int)-4=((28+hN l 4:Nat):Int);omega) Oo Oo znr Oo (λ_=>rfl) ?_;intro A1 ae;have aw:28+hN l 4-28=hN l 4:=by omega
 rw[aw]at ae|-;(conv=>whnf);refine StoreV.mem H (i:=2) rfl (show 4<10 by decide) rfl ?_;intro w8 H;have H:Mem w w8 [_,_,(r,.cells #[ii (hN l 2),ii (hN l 3),ii (hN l 4),ii (hN l 5),.slice A1 (hN l 4) (hN l 4),.slice none 0 0,ii 28,ii ((32+hN l 4:Nat):Int),.int .u32 0,.int .u32 0] 182)]:=H;(conv=>whnf);refine zr H 2 ?_;refine zv ?_;refine SliceV.bs hS rfl (32+hN l 4) (32+hN l 4+hN l 5) (32+hN l 4+hN l 5) rfl (by show((hN l 4:Int)+(hN l 5:Int))+28+8-4=((32+hN l 4+hN l 5:Nat):Int);omega) (by show((hN l 4:Int)+(hN l 5:Int))+28+8-4=((32+hN l 4+hN l 5:Nat):Int);omega) Oo Oo znr Oo (λ_=>rfl) ?_;intro A2 ah;have ax:32+hN l 4+hN l 5-(32+hN l 4)=hN l 5:=by omega
 rw[ax]at ah|-;(conv=>whnf);refine StoreV.mem H (i:=2) rfl (show 5<10 by decide) rfl ?_;intro w9 H;have H:Mem w w9 [_,_,(r,.cells #[ii (hN l 2),ii (hN l 3),ii (hN l 4),ii (hN l 5),.slice A1 (hN l 4) (hN l 4),.slice A2 (hN l 5) (hN l 5),ii 28,ii ((32+hN l 4:Nat):Int),.int .u32 0,.int .u32 0] 182)]:=H;(conv=>whnf);obtain⟨g,off,hA,_⟩:=hS.at_ (by grind);subst hA;obtain⟨n1,ai⟩:∃n,n=leN ((l.drop (28+hN l 4)).take 4):=⟨_,rfl⟩
 obtain⟨n2,aj⟩:∃n,n=leN ((l.drop (32+hN l 4+hN l 5)).take 4):=⟨_,rfl⟩
 have b1:n1<4294967296:=by
  have:=qbf (l.drop (28+hN l 4)) 4 (by grind);omega
 have b2:n2<4294967296:=by
  have:=qbf (l.drop (32+hN l 4+hN l 5)) 4 (by grind);omega
 have ak:∀wx,Ext w wx->BS wx (.slice (some ⟨g,off+(28+hN l 4),none⟩) (l.length-(28+hN l 4)) (c-(28+hN l 4))) (l.drop (28+hN l 4)):=λwx he=>BS.rest (hS.ext he) hc Oo
 have al:∀wx,Ext w wx->BS wx (.slice (some ⟨g,off+(32+hN l 4+hN l 5),none⟩) (l.length-(32+hN l 4+hN l 5)) (c-(32+hN l 4+hN l 5))) (l.drop (32+hN l 4+hN l 5)):=λwx he=>BS.rest (hS.ext he) hc Oo
 obtain⟨F,hF⟩:∃F:Dc->Prop,F=λw'=>Mem w w' [(cb,curO 367 (.slice (some ⟨g,off,none⟩) l.length c) 28 0),(nb,.cells (nsL l 7).toArray 278),(r,.cells #[ii (hN l 2),ii (hN l 3),ii (hN l 4),ii (hN l 5),.slice A1 (hN l 4) (hN l 4),.slice A2 (hN l 5) (hN l 5),ii 28,ii ((32+hN l 4:Nat):Int),.int .u32 n1,.int .u32 n2] 182)]:=⟨_,rfl⟩
 refine DrawV.gen (λS O w'=>Two w9.drew (curO 367 (.slice (some ⟨g,off+(28+hN l 4),none⟩) (l.length-(28+hN l 4)) (c-(28+hN l 4))) 0 0) (curO 367 (.slice (some ⟨g,off+(32+hN l 4+hN l 5),none⟩) (l.length-(32+hN l 4+hN l 5)) (c-(32+hN l 4+hN l 5))) 0 0) F (S 2) (S 5) (S 6) (S 12) (S 13) (S 17) (O 5) (O 12) w') rfl Jk (λO=>Two.start) (zw ?_);refine zg ?_;refine zg ?_
 ·refine StepG.of (ii ((32+hN l 4:Nat):Int)) (λS O wd hk Z U=>?_) (zw ?_)
  ·dsimp only at U;rw[hk]at U;(conv=>whnf);refine LoadV.mem (H.drew.call U.ext0) (i:=2) rfl rfl (zw ?_);exact⟨rfl,U.load⟩
  refine zg ?_
  ·refine StepG.of (.slice (some ⟨g,off+(28+hN l 4),none⟩) (l.length-(28+hN l 4)) (c-(28+hN l 4))) (λS O wd hk Z U=>zw ?_) (zw ?_)
   ·refine SliceV.rest (28+hN l 4) (by show((32+hN l 4:Nat):Int)-4=((28+hN l 4:Nat):Int);omega) hc Oo (zw ?_);exact⟨rfl,U⟩
   ·refine StepG.any (λS O wd hk Z U=>?_) (zw ?_)
    ·dsimp only at U;rw[hk]at U;(conv=>whnf);refine zcv (qdj _ _ wd (ak wd (H.drew.ext.trans U.ext1))) ?_;rintro v wx ⟨b,rfl,hb,aa,he⟩;(conv=>whnf);exact⟨trivial,Two.read1 U he ⟨b,rfl,hb,aa⟩⟩
    refine StepG.of (.int .u64 n1) (λS O wd hk Z U=>?_) (zw ?_)
    ·dsimp only at U;have h5:S 5=true:=Z 5 Od;rw[hk]at U;obtain⟨ab,b,ag,hb,aa⟩:=U.cur1 h5;rw[qbj ag];(conv=>whnf);refine zcv (qgw b _ 0 (l.drop (28+hN l 4)) wd aa (ak wd (H.drew.ext.trans ab)) (by grind) (by grind)) ?_;rintro v wx ⟨rfl,hu⟩;(conv=>whnf);exact⟨by rw[ai,B7];rfl,U.fix1 h5 (hu.ext ab hb)⟩
    (iterate 4 (refine zg ?_))
    ·refine StepG.of (.slice (some ⟨g,off+(32+hN l 4+hN l 5),none⟩) (l.length-(32+hN l 4+hN l 5)) (c-(32+hN l 4+hN l 5))) (λS O wd hk Z U=>zw ?_) (zw ?_)
     ·refine SliceV.rest (32+hN l 4+hN l 5) (by show((hN l 4+hN l 5+36:Nat):Int)-4=((32+hN l 4+hN l 5:Nat):Int);omega) hc Oo (zw ?_);exact⟨rfl,U⟩
     refine StepG.any (λS O wd hk Z U=>?_) (zw ?_)
     ·dsimp only at U;have h6:S 6=true:=Z 6 Od;rw[hk]at U;(conv=>whnf);refine zcv (qdj _ _ wd (al wd (H.drew.ext.trans U.ext2))) ?_;rintro v wx ⟨b,rfl,hb,aa,he⟩;(conv=>whnf);exact⟨trivial,Two.read2 U h6 he ⟨b,rfl,hb,aa⟩⟩
     refine StepG.of (.int .u64 n2) (λS O wd hk Z U=>?_) (zw ?_)
     ·dsimp only at U;have af:S 12=true:=Z 12 Od;rw[hk]at U;obtain⟨ab,b,ag,hb,aa⟩:=U.cur2 af;rw[qbj ag];(conv=>whnf);refine zcv (qgw b _ 0 (l.drop (32+hN l 4+hN l 5)) wd aa (al wd (H.drew.ext.trans ab)) (by rw[zld];omega) (by rw[zld];omega)) ?_;rintro v wx ⟨rfl,hu⟩;(conv=>whnf);exact⟨by rw[aj,B7];rfl,U.fix2 af (hu.ext ab hb)⟩
     (iterate 3 (refine zg ?_));refine StepG.of undef (λS O wd hk Z U=>?_) (zw ?_)
     ·dsimp only at U;have h2:S 2=true:=Z 2 Od;have h5:S 5=true:=Z 5 Od;have h6:S 6=true:=Z 6 Od;have af:S 12=true:=Z 12 Od;have ay:S 13=true:=Z 13 Od;rw[hk]at U;have ab:=(U.a rfl).1;(conv=>whnf);refine StoreA.mem (H.drew.call ab) (i:=2) rfl (show 8+2<=10 by decide) (by intro v hv;simp at hv;rcases hv with rfl|rfl<;>rfl) λwx az=>zw ?_;refine⟨rfl,?_⟩;refine⟨λh=>(by cases h),U.d,U.e,λ_=>⟨by rw[hF];exact az,h2,h5,h6,af,ay⟩⟩
     intro O a7 U;have ac:=(U.f rfl).1;rw[hF]at ac;(conv=>whnf);refine zl ac 2 ?_;refine StoreA.same (ac.get (zmc (zmc mh))) rfl (by intro v hv;simp at hv;rcases hv with rfl|rfl|rfl|rfl|rfl|rfl|rfl|rfl|rfl|rfl<;>rfl) λa8 am=>zw ?_;refine qj (R:=λv w'=>(∃A B,v=.tuple #[.agg (okF l A B).toArray,.nilIface]/\SlAt encB 1 w' A ((l.drop 28).take (hN l 4))/\SlAt encB 1 w' B ((l.drop (32+hN l 4)).take (hN l 5)))/\Ext w w') (zw ?_);have ad:=ac.call am;refine zl ad 2 ?_;refine⟨⟨A1,A2,?_,?_,?_⟩,ad.ext⟩
     ·rw[okF,<-ai,<-aj];rfl
     ·exact ae.ext ad.ext
     ·exact ah.ext ad.ext
theorem que:Do.underlying 32=some (.slice 5):=Tryz.underlying32
theorem bytI:Do.info? 5=some ((Do.info? 5).get Jk):=(B9 _).symm
theorem bytZ:((Do.info? 5).get Jk).zero=some (.int .u8 0):=by kernel_rfl
def fixL(n:Nat):Nat->LB
 | 0=>[]
 | k+1=>fixL n k++[UInt8.ofNat (n/2 ^ (8*k)%256)]
theorem qh(n k:Nat):(fixL n k).length=k:=by
 induction k with
 | zero=>rfl
 | succ k H=>simp[fixL,H]
theorem qgz(n k:Nat):leN (fixL n k)=n%256 ^ k:=by
 induction k with
 | zero=>simp[fixL,leN,Nat.mod_one]
 | succ k H=>
  rw[fixL,qyx,H,qh];have e:(2:Nat) ^ (8*k)=256 ^ k:=by rw[Nat.pow_mul]
  have O:(UInt8.ofNat (n/2 ^ (8*k)%256)).toNat=n/256 ^ k%256:=by
   rw[e];simp
  simp only[leN,O,Nat.mul_zero,Bq];rw[CY,Nat.mod_mul]
namespace V
theorem SlAt.rest(H:SlAt encB 1 w (some ⟨g,off,none⟩) l)(O:a<l.length):SlAt encB 1 w (some ⟨g,off+a,none⟩) (l.drop a):=by
 have:=H.cut (A':=some ⟨g,off+a,none⟩) (lo:=a) (hi:=l.length) (m:=l.length) Oo znr znr (by rw[Ab Oo,Bw,AU,q7])
 rwa[Ay Js]at this
theorem Rw.byts{n:Nat}{H:LB}(h:Rw w0 w (.slice A n c) e 1 n (H.map λc=>Value.int .u8 c.toNat) L)(hn:H.length=n):BS w (.slice A n c) H:=by
 subst hn;refine⟨A,c,rfl,?_,⟨λO=>?_⟩⟩
 ·rcases h.own.2 with⟨Z,e2⟩|⟨g,aa,cur,Z,_,_,U,_⟩
  ·omega
  ·cases Z;exact U
 ·obtain⟨g,rfl,_,_,_,hc⟩:=h.cells (List.length_pos_iff.2 O);refine⟨g,0,rfl,λj x hx k v W=>?_⟩;cases k with
  | succ k=>simp[encB]at W
  | zero=>
   simp only[encB,Bb,AN]at W;subst W;have:=hc j (.int .u8 x.toNat) (by rw[Ar,hx];rfl)
   simpa using this
theorem Wit.shrN{k:IntKind}{b:Int}{K:Int->Prop}(n:Nat)(e:b=(n:Int))(O:n<k.bits)(H:K ((a/2 ^ n:Nat):Int)):
  Wit (λr=>0<=b/\b<k.bits/\(a:Int)/2 ^ b.toNat=r) K:=by
 subst e;refine⟨_,⟨by omega,by omega,?_⟩,H⟩;rw[Int.toNat_natCast];simp
theorem BytesS.sl{n:Nat}{K:Dh->Prop}(h:SlAt encB 1 w A l)(U:l.length=n)(W:K (.string ⟨l.toArray⟩)):BytesS w A n K:=
 ⟨l,U,λH=>by
  obtain⟨b,off,Z,h2⟩:=h.at_ H;refine⟨b,off,Z,λk v O=>?_⟩;rw[byteCells,Ar]at O;obtain⟨x,hx,rfl⟩:=Cn.1 O;have:=h2 k x hx 0 (.int .u8 x.toNat) rfl
  simpa using this,W⟩
theorem Wit.low8{K:Int->Prop}(H:K ((a%256:Nat):Int)):Wit (λr=>IntKind.u8.wrap (a:Int)=r) K:=by
 refine⟨_,?_,H⟩;simp[IntKind.wrap,IntKind.bits,IntKind.signed]
end V
section
variable {wd w w':Dc} {o:Obj} {F:Di} {s2 s5 s8 s11 s12 s13:Bool} {v12:Dh}
end
def upN(n b:Nat):Nat:=(n+b-1)/b
def qi(n:Nat):Nat:=8+upN n 8
def qz(n:Nat):Nat:=qi n+4*upN n 2048
def qak(n:Nat):Nat:=qz n+2*upN n 256
def qa7(n m:Nat):Nat:=qak n+4*upN m 512
def cutV(n m:Nat):Dm:=[ii 8,ii (qi n),ii (qz n),ii (qak n),ii (qa7 n m)]
theorem qbh(n b:Nat)(H:0<b):upN n b<=n:=by
 unfold upN
 rcases B0 n with rfl|O
 ·rw[Aq,CL Oo];omega
 ·have:(n+b-1)/b<n+1:=by
   rw[Nat.div_lt_iff_lt_mul H];have h:n+b<=n*b+1*b:=by simp_all[Nat.le_mul_of_pos_right]
   grind
  omega
theorem qacs(n b:Nat)(H:0<b):((n:Int)+(b:Int)-1)/(b:Int)=((upN n b:Nat):Int):=by
 grind [upN]
theorem qo8(n b:Nat)(w:Dc)(Z:n<=8796093022208)(H:0<b)(O:b<=1048576):Gv Do 264 [ii n,ii b] w λr w'=>r=ii (upN n b)/\w'=w:=by
 refine ze Tryz.func264 Tryz.ntmps264 ?_;refine zv ?_;have U:=qacs n b H;have W:=qbh n b H;rw[U];refine Obl.mk ⟨by omega,by omega,⟨by omega,by omega⟩⟩ (zw ?_);simp
theorem qpm(n m:Nat)(w:Dc)(hn:n<=67108864)(H:m<=67108864):Gv Do 237 [ii n,ii m] w λr w'=>r=.agg (cutV n m).toArray/\Ext w w':=by
 have u1:=qbh n 8 Od;have u2:=qbh n 2048 Od;have u3:=qbh n 256 Od;have u4:=qbh m 512 Od;have g1:qi n=8+upN n 8:=rfl;have g2:qz n=qi n+4*upN n 2048:=rfl;have g3:qak n=qz n+2*upN n 256:=rfl;refine ze Tryz.func237 Tryz.ntmps237 ?_;refine znm (Mem.nil w) ?_;intro r w1 H;have H:Mem w w1 [(r,.cells #[ii 0,ii 0,ii 0,ii 0,ii 0] 376)]:=H;(conv=>whnf);refine znm H λp w2 H=>zw ?_;refine StoreA.all H (i:=0) rfl rfl Od ?_;intro w3 H;have H:Mem w w3 [(p,.cells #[ii 8,ii 0,ii 0,ii 0,ii 0] 376),(r,.cells #[ii 0,ii 0,ii 0,ii 0,ii 0] 376)]:=H;(conv=>whnf);refine DrawV.own rfl Jk (zw ?_);refine zo ?_;refine zO ?_ (by intro wd O;(conv=>whnf);refine LoadV.mem (Mem.call (Mem.drew H) O) (i:=0) rfl rfl ?_;(conv=>whnf);exact PostO.still xr rfl);(conv=>whnf);refine zo ?_;apply StepO.still
 ·intro wd O;(conv=>whnf);refine zcv (qo8 n 8 wd Oo Od Od) ?_;rintro v U ⟨rfl,rfl⟩;exact PostO.still xr rfl
 (conv=>whnf);refine zo ?_;refine zo ?_;intro w4 O
 (repeat(intro _;(conv=>whnf)))
 (conv=>whnf);refine StoreV.mem (H.drew.call O) (i:=0) rfl (show 1<5 by decide) rfl ?_;intro w5 H;have H:Mem w w5 [(p,.cells #[ii 8,ii (qi n),ii 0,ii 0,ii 0] 376),(r,.cells #[ii 0,ii 0,ii 0,ii 0,ii 0] 376)]:=H;(conv=>whnf);refine DrawV.own rfl Jk (zw ?_);refine zo ?_;refine zO ?_ (by intro wd O;(conv=>whnf);refine LoadV.mem (Mem.call (Mem.drew H) O) (i:=0) rfl rfl ?_;(conv=>whnf);exact PostO.still xr rfl);(conv=>whnf);refine zo ?_;apply StepO.still
 ·intro wd O;(conv=>whnf);refine zcv (qo8 n 2048 wd Oo Od Od) ?_;rintro v U ⟨rfl,rfl⟩;exact PostO.still xr rfl
 (conv=>whnf);(iterate 3 (refine zo ?_));intro ab O
 (repeat(intro _;(conv=>whnf)))
 (conv=>whnf);refine StoreV.mem (H.drew.call O) (i:=0) rfl (show 2<5 by decide) rfl ?_;intro W H;have H:Mem w W [(p,.cells #[ii 8,ii (qi n),ii (qz n),ii 0,ii 0] 376),(r,.cells #[ii 0,ii 0,ii 0,ii 0,ii 0] 376)]:=H;(conv=>whnf);refine DrawV.own rfl Jk (zw ?_);refine zo ?_;refine zO ?_ (by intro wd O;(conv=>whnf);refine LoadV.mem (Mem.call (Mem.drew H) O) (i:=0) rfl rfl ?_;(conv=>whnf);exact PostO.still xr rfl);(conv=>whnf);refine zo ?_;apply StepO.still
 ·intro wd O;(conv=>whnf);refine zcv (qo8 n 256 wd Oo Od Od) ?_;rintro v U ⟨rfl,rfl⟩;exact PostO.still xr rfl
 (conv=>whnf);(iterate 3 (refine zo ?_));intro ac O
 (repeat(intro _;(conv=>whnf)))
 (conv=>whnf);refine StoreV.mem (H.drew.call O) (i:=0) rfl (show 3<5 by decide) rfl ?_;intro Z H;have H:Mem w Z [(p,.cells #[ii 8,ii (qi n),ii (qz n),ii (qak n),ii 0] 376),(r,.cells #[ii 0,ii 0,ii 0,ii 0,ii 0] 376)]:=H;(conv=>whnf);refine DrawV.own rfl Jk (zw ?_);refine zo ?_;refine zO ?_ (by intro wd O;(conv=>whnf);refine LoadV.mem (Mem.call (Mem.drew H) O) (i:=0) rfl rfl ?_;(conv=>whnf);exact PostO.still xr rfl);(conv=>whnf);refine zo ?_;apply StepO.still
 ·intro wd O;(conv=>whnf);refine zcv (qo8 m 512 wd Oo Od Od) ?_;rintro v U ⟨rfl,rfl⟩;exact PostO.still xr rfl
 (conv=>whnf);(iterate 3 (refine zo ?_));intro ad O
 (repeat(intro _;(conv=>whnf)))
 (conv=>whnf);refine StoreV.mem (H.drew.call O) (i:=0) rfl (show 4<5 by decide) rfl ?_;intro aa H;have H:Mem w aa [(p,.cells #[ii 8,ii (qi n),ii (qz n),ii (qak n),ii (qa7 n m)] 376),(r,.cells #[ii 0,ii 0,ii 0,ii 0,ii 0] 376)]:=H;(conv=>whnf);refine zl H 0 ?_;refine StoreA.all H (i:=1) rfl rfl (by intro v hv;simp at hv;rcases hv with rfl|rfl|rfl|rfl|rfl<;>rfl) λae H=>zw ?_;refine qj (R:=λr w'=>r=.agg (cutV n m).toArray/\Ext w w') (zw ?_);refine zl H 1 ?_;exact⟨rfl,H.ext⟩
theorem qrh(n m:Nat)(H:n<=67108864)(O:m<=n):qa7 n m<=1000000000:=by
 grind [qbh,qa7,qak,qz,qi]
theorem q0l(n m:Nat)(w:Dc)(H:n<=67108864)(O:m<=n):Gv Do 168 [ii n,ii m] w λr w'=>r=ii (qa7 n m)/\Ext w w':=by
 refine ze Tryz.func168 Tryz.ntmps168 ?_;refine zv ?_;refine zcv (qpm n m w H Oo) ?_;rintro v U ⟨rfl,W⟩;conv=>whnf
 simp_all
def vN(l:LB):Nat:=leN (l.take 4)
def vM(l:LB):Nat:=leN ((l.drop 4).take 4)
def vOk(l:LB):Bool:=decide (8<=l.length)&&decide (vN l<=67108864)&&decide (vM l<=vN l)&&decide (l.length=qa7 (vN l) (vM l))
def vecC(s:Dh)(n m:Nat):Dp:=#[s,ii n,ii m,ii 8,ii (qi n),ii (qz n),ii (qak n),ii (qa7 n m)]
def vecO(t:Df)(s:Dh)(n m:Nat):Obj:=.cells (vecC s n m) t
structure Sto(wd:Dc)(F:Dk)(s4 s8 s9 s12:Bool)(w:Dc):Prop where
 a:s12=false->Ext wd w
 f:s12=true->F w/\s4=true/\s8=true/\s9=true
section
variable {wd w w':Dc} {F:Dk} {s4 s8 s9 s12:Bool}
theorem Sto.start:Sto wd F false false false false wd:=⟨λ_=>xr,Js⟩
theorem Sto.of{H O U:Bool}(h:Sto wd F s4 s8 s9 s12 w)(W:s12=false)(Z:Ext w w'):Sto wd F H O U s12 w':=⟨λh'=>(h.a h').trans Z,(by grind)⟩
theorem Sto.z4(h:Sto wd F false s8 s9 s12 w):s12=false:=by
 cases H:s12
 ·rfl
 ·have:=(h.f H).2.1;cases this
theorem Sto.z8(h:Sto wd F s4 false s9 s12 w):s12=false:=by
 cases H:s12
 ·rfl
 ·have:=(h.f H).2.2.1;cases this
theorem Sto.z9(h:Sto wd F s4 s8 false s12 w):s12=false:=by
 cases H:s12
 ·rfl
 ·have:=(h.f H).2.2.2;cases this
end
theorem q4o(l:LB)(A:oA)(c:Nat)(w:Dc)(hS:SlAt encB 1 w A l)(hc:l.length<=c)(hl:l.length<=140737488355328)(hv:vOk l=true):
  Gv Do 238 [.slice A l.length c] w λv w'=>(∃b,v=.tuple #[pp b,.bool true,.nilIface]/\w.heap.size<=b/\w'.heap[b]?=some (vecO 381 (.slice A l.length c) (vN l) (vM l)))/\Ext w w':=by
 simp only[vOk,AB,decide_eq_true_eq]at hv;obtain⟨⟨⟨h8,g1⟩,g2⟩,hz⟩:=hv;refine ze Tryz.func238 Tryz.ntmps238 ?_;refine zv ?_;obtain⟨g,off,hA,_⟩:=hS.at_ (by grind);subst hA;refine DrawV.free Jk Jk (zw ?_);refine zd ?_;refine zd ?_;apply zsd
 ·intro wd U;(conv=>whnf);refine zcv (qlv l (some ⟨g,off,none⟩) _ c wd (hS.ext ((Ext.refl w).drew.trans U)) rfl Oo) ?_;rintro v w9 ⟨rfl,W⟩;exact⟨W,rfl⟩
 (conv=>whnf);refine zd ?_;apply zsd
 ·intro wd U;(conv=>whnf);refine SliceV.rest 4 rfl hc Oo (zw ?_);exact xq
 (conv=>whnf);apply zsd
 ·intro wd U;(conv=>whnf);refine zcv (qlv (l.drop 4) _ _ _ wd (SlAt.rest (hS.ext ((Ext.refl w).drew.trans U)) Oo) (by rw[zld]) (by rw[zld];omega)) ?_;rintro v w9 ⟨rfl,W⟩;exact⟨W,rfl⟩
 (conv=>whnf);refine zd ?_;apply StepD.of (λv wx=>∃b,v=pp b/\w.drew.heap.size<=b/\wx.heap[b]?=some (.cells #[.slice (some ⟨g,off,none⟩) l.length c,ii (vN l),ii (vM l),ii 0,ii 0,ii 0,ii 0,ii 0] 381))
  (λ_ _ _ h he=>let⟨b,h1,h2,h3⟩:=h;⟨b,h1,h2,he.get h3⟩)
 ·intro wd U;(conv=>whnf);refine⟨λx wx hb hw=>?_⟩;subst hb hw;(conv=>whnf);exact⟨xr.alloc _,_,rfl,U.size,heap_alloc_new _ _⟩
 (conv=>whnf);apply StepD.of (λv wx=>∃b,v=pp b/\w.drew.heap.size<=b/\wx.heap[b]?=some (.cells #[.slice (some ⟨g,off,none⟩) l.length c,ii (vN l),ii (vM l),ii 0,ii 0,ii 0,ii 0,ii 0] 381))
  (λ_ _ _ h he=>let⟨b,h1,h2,h3⟩:=h;⟨b,h1,h2,he.get h3⟩)
 ·intro wd U;(conv=>whnf);rintro _ _;(conv=>whnf);rintro v ⟨b,rfl,h1,h2⟩;conv=>whnf
  grind [Ext.refl]
 (conv=>whnf);intro w9 aa;(conv=>whnf);rintro v ⟨b,rfl,hb,ho⟩;(conv=>whnf);intro _ _;(conv=>whnf);have O:=(Mem.nil w).drew.fresh aa hb ho;refine LoadV.mem (i:=0) Oa rfl rfl (zw ?_);refine zt ?_;refine zy ?_;have O:=O.drew;refine zt ?_;refine LoadV.mem (i:=0) Oa rfl rfl (zw ?_);refine zt ?_;refine LoadV.mem (i:=0) Oa rfl rfl (zw ?_);refine zt ?_;obtain⟨F,hF⟩:∃F:Dc->Prop,F=λw'=>Mem w w' [(b,vecO 381 (.slice (some ⟨g,off,none⟩) l.length c) (vN l) (vM l))]:=⟨_,rfl⟩
 obtain⟨w3,ab⟩:∃w3:Dc,w3=w9.drew:=⟨_,rfl⟩
 rw[<-ab]at O|-;refine DrawV.inv (λS w'=>Sto w3.drew F (S 4) (S 8) (S 9) (S 12) w') rfl Jk Sto.start (zw ?_);(iterate 4 (refine zi ?_));refine StepI.of (ii (vN l)) (λS wd Z hp H=>?_) (zw ?_)
 ·dsimp only at H;rw[Z]at H;(conv=>whnf);refine LoadV.mem (O.drew.call (H.a H.z4)) (i:=0) rfl rfl (zw ?_);exact⟨rfl,H.of H.z4 xr⟩
 (iterate 3 (refine zi ?_));refine StepI.of (ii (vM l)) (λS wd Z hp H=>?_) (zw ?_)
 ·dsimp only at H;rw[Z]at H;(conv=>whnf);refine LoadV.mem (O.drew.call (H.a H.z8)) (i:=0) rfl rfl (zw ?_);exact⟨rfl,H.of H.z8 xr⟩
 refine StepI.of (.agg (cutV (vN l) (vM l)).toArray) (λS wd Z hp H=>?_) (zw ?_)
 ·dsimp only at H;rw[Z]at H;(conv=>whnf);refine zcv (qpm (vN l) (vM l) wd Oo Oo) ?_;rintro v w9 ⟨rfl,W⟩;exact⟨rfl,H.of H.z9 W⟩
 refine zi ?_;refine zi ?_;refine StepI.of undef (λS wd Z hp H=>?_) (zw ?_)
 ·dsimp only at H;have h4:S 4=true:=hp 4 Od;have ac:S 8=true:=hp 8 Od;have W:S 9=true:=hp 9 Od;rw[Z]at H;(conv=>whnf);refine StoreA.mem (O.drew.call (H.a rfl)) (i:=0) rfl (show 3+5<=8 by decide) (by intro v hv;simp[cutV]at hv;rcases hv with rfl|rfl|rfl|rfl|rfl<;>rfl) λwx ad=>zw ?_;exact⟨rfl,λh=>(by cases h),λ_=>⟨by rw[hF];exact ad,h4,ac,W⟩⟩
 intro ae H;have O:=(H.f rfl).1;rw[hF]at O;(conv=>whnf);refine zr O 0 ?_;refine zv ?_;refine zy ?_;have O:=O.drew;refine zt ?_;refine LoadV.mem (i:=0) Oa rfl rfl (zw ?_);refine zt ?_;exact⟨⟨b,by simp[hz],(O.own _ mh).1,O.get Js⟩,O.ext⟩
theorem q5q(l:LB)(A:oA)(c:Nat)(w:Dc)(O:SlAt encB 1 w A l)(U:l.length<=c)(W:l.length<=140737488355328)(Z:vOk l=true):
  Gv Do 169 [.slice A l.length c] w λv w'=>(∃b,v=.tuple #[pp b,.nilIface]/\w.heap.size<=b/\w'.heap[b]?=some (vecO 381 (.slice A l.length c) (vN l) (vM l)))/\Ext w w':=by
 have H:=q4o l A c w O U W Z;refine ze Tryz.func169 Tryz.ntmps169 ?_;refine zcv (H) ?_;rintro v w1 ⟨⟨b,rfl,hb,ho⟩,he⟩;refine zu ?_;exact⟨⟨b,rfl,hb,ho⟩,he⟩
theorem qdt{n:Nat}(h:n<256):InR .u8 (n:Int):=⟨by omega,by omega⟩
def qd4(n:Nat):Nat:=n%2+n/2%2+n/4%2+n/8%2+n/16%2+n/32%2+n/64%2+n/128%2
def qa6(l:LB):Nat->Nat->Nat
 | _,0=>0
 | a,k+1=>qa6 l a k+qd4 (l.getD (a+k) 0).toNat
def qfa(l:LB)(i:Nat):Nat:=
 if i=0\/vN l=0 then 0 else if vN l<=i then vM l else
  min (leN ((l.drop (qi (vN l)+4*(i/2048))).take 4)+leN ((l.drop (qz (vN l)+2*(i/256))).take 2)+qa6 l (8+i/256*32) (i%256/8)+qd4 ((l.getD (8+i/8) 0).toNat%2 ^ (i%8))) i
def bitN(d:LB)(i:Nat):Nat:=(d.getD (i/8) 0).toNat/2 ^ (i%8)%2
def cnt(d:LB):Nat->Nat
 | 0=>0
 | n+1=>cnt d n+bitN d n
theorem qgl(d:LB)(i:Nat):bitN d i<=1:=by unfold bitN;omega
theorem qdu(d:LB)(n:Nat):cnt d n<=n:=by
 induction n<;>grind [qgl,cnt]
theorem qef(h:a<=b):cnt d a<=cnt d b:=by
 induction h<;>grind [cnt]
theorem qu0:∀x,x<256->∀r,r<8->qd4 (x%2 ^ (r+1))=qd4 (x%2 ^ r)+x/2 ^ r%2:=by decide +kernel
theorem q51(d:LB)(a r:Nat)(H:r<=8):cnt d (8*a+r)=cnt d (8*a)+qd4 ((d.getD a 0).toNat%2 ^ r):=by
 induction r with
 | zero=>rw[Nat.pow_zero,Nat.mod_one,Bq];rfl
 | succ r O=>
  grind [cnt,qu0,q9,bitN]
theorem qr5(d:LB)(a k:Nat):cnt d (8*(a+k))=cnt d (8*a)+qa6 d a k:=by
 induction k with
 | zero=>rfl
 | succ k H=>
  have e:8*(a+(k+1))=8*(a+k)+8:=by omega
  rw[e,q51 d (a+k) 8 Oo,H,qa6]
  grind [q9]
theorem qx4{H:Type}(l:List H)(a i:Nat)(x:H):(l.drop a).getD i x=l.getD (a+i) x:=by
 simp
theorem qmd(l:LB)(b a k:Nat):qa6 (l.drop b) a k=qa6 l (b+a) k:=by
 induction k<;>grind [qa6]
theorem qwt(l:LB)(a t:Nat):bitN (l.drop a) t=bitN l (8*a+t):=by
 grind [bitN]
theorem qit(l:LB)(a t:Nat)(h:t<8*a):bitN (l.take a) t=bitN l t:=by
 grind [bitN]
theorem qr6(l:LB)(a:Nat):∀n,n<=8*a->cnt (l.take a) n=cnt l n
 | 0,_=>rfl
 | n+1,h=>by rw[cnt,cnt,qr6 l a n Oo,qit _ _ _ Oo]
structure VecOk(l:LB):Prop where
 ok:vOk l=true
 great:∀j,j<upN (vN l) 2048->leN ((l.drop (qi (vN l)+4*j)).take 4)=cnt (l.drop 8) (2048*j)
 small:∀j,j<upN (vN l) 256->leN ((l.drop (qz (vN l)+2*j)).take 2)=cnt (l.drop 8) (256*j)-cnt (l.drop 8) (2048*(j/8))
 ones:cnt (l.drop 8) (vN l)=vM l
theorem VecOk.rank(h:VecOk l)(i:Nat)(hi:i<=vN l):qfa l i=cnt (l.drop 8) i:=by
 rw[qfa]
 by_cases H:i=0\/vN l=0
 ·rw[Af H];obtain rfl:i=0:=by omega
  rfl
 rw[Ab H]
 by_cases O:vN l<=i
 ·rw[Af O];obtain rfl:i=vN l:=by omega
  exact h.ones.symm
 rw[Ab O];have U:i/2048<upN (vN l) 2048:=by unfold upN;omega
 have W:i/256<upN (vN l) 256:=by unfold upN;omega
 rw[h.great _ U,h.small _ W,<-qmd,<-qx4];have Z:i/256/8=i/2048:=by omega
 rw[Z];have m1:cnt (l.drop 8) (2048*(i/2048))<=cnt (l.drop 8) (256*(i/256)):=qef Oo;have f1:=qr5 (l.drop 8) (i/256*32) (i%256/8);have f2:=q51 (l.drop 8) (i/8) (i%8) Oo
 grind [qdu]
theorem qyy:∀(l:LB) (t:Nat),leN l/2 ^ t%2=bitN l t
 | [],t=>by simp[leN,bitN]
 | x::l,t=>by
  have W:=q9 x
  rcases AH t 8 with U|U
  ·have H:t/8=0:=by omega
   have O:t%8=t:=by omega
   rw[bitN,H,O,leN];simp only[List.getD_cons_zero];obtain rfl|rfl|rfl|rfl|rfl|rfl|rfl|rfl:t=0\/t=1\/t=2\/t=3\/t=4\/t=5\/t=6\/t=7:=by omega
   all_goals(simp only[Nat.reducePow];omega)
  ·obtain⟨u,rfl⟩:∃u,t=8+u:=⟨t-8,by omega⟩
   rw[leN,Nat.pow_add,<-Cq];have e:(x.toNat+256*leN l)/2 ^ 8=leN l:=by simp only[Nat.reducePow];omega
   rw[e,qyy l u,bitN,bitN];have H:(8+u)/8=u/8+1:=by omega
   have O:(8+u)%8=u%8:=by omega
   rw[H,O,List.getD_cons_succ]
def valB(p:LB)(f:Nat):Nat->Nat
 | 0=>0
 | k+1=>valB p f k+bitN p (f+k)*2 ^ k
theorem qre(p:LB)(f k:Nat):valB p f k<2 ^ k:=by
 induction k with
 | zero=>simp[valB]
 | succ k H=>
  have:=qgl p (f+k);have O:bitN p (f+k)*2 ^ k<=1*2 ^ k:=Bc _ this
  grind [valB]
theorem qrd(p:LB)(f k:Nat)(h:k<=m):valB p f k<2 ^ m:=AE (qre p f k) (AQ Od h)
def numP(p:LB)(w i:Nat):Nat:=leN ((p.drop (i*w/8)).take 4)/2 ^ (i*w%8)%2 ^ w
theorem q8p(p:LB)(w i:Nat):numP p w i<2 ^ w:=Cb _ (Nat.two_pow_pos w)
theorem qs6(p:LB)(w i:Nat)(U:w<=24):numP p w i=valB p (i*w) w:=by
 have H:∀k,k<=w->leN ((p.drop (i*w/8)).take 4)/2 ^ (i*w%8)%2 ^ k=valB p (i*w) k:=by
  intro k
  induction k with
  | zero=>grind [valB]
  | succ k O=>
   intro W;rw[Nat.mod_pow_succ,O Oo,valB,Cq,<-Nat.pow_add,qyy,qit _ _ _ Oo,qwt]
   grind
 exact H w znr
def errF(f:Nat->Nat×Nat):Nat->Nat×Nat
 | 0=>(0,0)
 | k+1=>if(errF f k).2≠0 then errF f k else f k
theorem qbd{f:Nat->Nat×Nat}{n:Nat}(h:∀k,k<n->(f k).2=0):(errF f n).2=0:=by
 induction n<;>grind [errF]
theorem q7s{f:Nat->Nat×Nat}{n:Nat}(h:∀j,j<k->(f j).2=0)(H:k<n)(O:(f k).2≠0):errF f n=f k:=by
 induction n<;>grind [errF,qbd]
theorem qb8{f:Nat->Nat×Nat}{n:Nat}(h:(errF f n).2=0):∀k,k<n->(f k).2=0:=by
 induction n<;>grind [errF]
def vAt(l:LB):Nat->Nat
 | 0=>0
 | k+1=>vAt l k+(numL (l.drop (vAt l k))).2.1
def vNum(l:LB)(k:Nat):Nat:=(numL (l.drop (vAt l k))).1
def numE(l:LB)(k most:Nat):Nat×Nat:=
 if(numL (l.drop (vAt l k))).2.2≠0 then(vAt l k,(numL (l.drop (vAt l k))).2.2)else if most<vNum l k then(vAt l k,2)else(0,0)
theorem qpa(l:LB)(k:Nat):vAt l k<=l.length:=by
 induction k<;>grind [qb4,vAt]
theorem qrb(l:LB)(k:Nat):vNum l k<18446744073709551616:=(qb4 (l.drop (vAt l k))).1
theorem qrf(h:(numL (l.drop (vAt l k))).2.2=0):varS l (vAt l k) 0=(vNum l k,vAt l (k+1),0):=by
 rw[varS,Ab Js,Ab Oo];rfl
section
variable {l:LB} {k:Nat}
theorem qmz(h:(numL (l.drop (vAt l k))).2.2=0):(varS l (vAt l k) 0).1=vNum l k:=by rw[qrf h]
theorem qm0(h:(numL (l.drop (vAt l k))).2.2=0):(varS l (vAt l k) 0).2.1=vAt l (k+1):=by rw[qrf h]
theorem qm1(h:(numL (l.drop (vAt l k))).2.2=0):(varS l (vAt l k) 0).2.2=0:=by rw[qrf h]
theorem q1m(h:(numL (l.drop a)).2.2=0):(varS l a 0).1=(numL (l.drop a)).1/\(varS l a 0).2.1=a+(numL (l.drop a)).2.1/\(varS l a 0).2.2=0:=by
 grind [varS]
theorem q1l(h:(numL (l.drop a)).2.2≠0):(varS l a 0).1=0/\(varS l a 0).2.1=a/\(varS l a 0).2.2=(numL (l.drop a)).2.2:=by
 grind [varS]
theorem qg8(H:(numL (l.drop (vAt l k))).2.2=0)(O:vNum l k<=most):numE l k most=(0,0):=by grind [numE]
end
def qae(n:Nat):Nat:=Go.Lib.bitLen n
def dhF(m:LB)(k:Nat):Nat×Nat:=numE m k (if k=0 then 4194304 else 67108864)
def dN(m:LB):Nat:=vNum m 0
def quf(m:LB):Nat:=vNum m 1
def dW(m:LB):Nat:=qae (quf m)
def qcb(m:LB):Nat:=vAt m 2
def qx(m:LB):Nat:=qcb m+(upN (dN m) 16*dW m+7)/8
def dEnd(m:LB):Nat:=qx m+quf m
def dE(m:LB):Nat×Nat:=
 if(errF (dhF m) 2).2≠0 then errF (dhF m) 2 else if m.length<dEnd m then(m.length,10)else if dEnd m<m.length then(dEnd m,13)else(0,0)
def qah(m:LB):LB:=(m.drop (qcb m)).take (qx m-qcb m)
def qc(m:LB):LB:=m.drop (qx m)
def entG(m:LB)(first:Bool)(ahead:LB):LB×Nat×Nat:=
 let s:Nat×Nat×Nat:=if first then(0,0,0)else numL m
 if s.2.2≠0 then([],0,s.2.2)else
  let t:=numL (m.drop s.2.1)
  if t.2.2≠0 then([],0,t.2.2)else if ahead.length<s.1 then([],0,161)else if 262144<t.1\/262144<s.1+t.1 then([],0,2)
  else if m.length-s.2.1-t.2.1<t.1 then([],0,10)else(ahead.take s.1++(m.drop (s.2.1+t.2.1)).take t.1,s.2.1+t.2.1+t.1,0)
def qet(E:LB)(p:Nat)(first:Bool)(ahead:LB):LB×Nat×Nat:=
 if E.length<p then([],0,10)else if(entG (E.drop p) first ahead).2.2≠0 then([],0,(entG (E.drop p) first ahead).2.2)else
  ((entG (E.drop p) first ahead).1,p+(entG (E.drop p) first ahead).2.1,0)
def blk(E:LB)(p:Nat):Nat->LB×Nat×Nat
 | 0=>qet E p true []
 | j+1=>if(blk E p j).2.2≠0 then blk E p j else qet E (blk E p j).2.1 false (blk E p j).1
def qy(m:LB)(k:Nat):Nat:=valB (qah m) (k*dW m) (dW m)
def dGet(m:LB)(i:Nat):Option LB:=
 if i<dN m then(if(blk (qc m) (qy m (i/16)) (i%16)).2.2=0 then some (blk (qc m) (qy m (i/16)) (i%16)).1 else none)else none
theorem qev{m:LB}{first:Bool}(h:(entG m first ahead).2.2=0):(entG m first ahead).1.length<=262144/\(entG m first ahead).2.1<=m.length:=by
 grind [entG,qb4]
theorem qsh{E:LB}{p:Nat}{first:Bool}(h:(qet E p first ahead).2.2=0):(qet E p first ahead).1.length<=262144/\(qet E p first ahead).2.1<=E.length:=by
 grind [qet,qev]
theorem q5v{E:LB}{p:Nat}:∀{j:Nat},(blk E p j).2.2=0->(blk E p j).1.length<=262144/\(blk E p j).2.1<=E.length
 | 0,h=>qsh h
 | j+1,h=>by
  grind [blk,qsh]
theorem q2d{E:LB}{p:Nat}(h:(blk E p j).2.2≠0):∀{i:Nat},j<=i->blk E p i=blk E p j:=by
 intro i H
 induction H<;>grind [blk]
theorem qsa{m:LB}(h:dGet m i=some s):s.length<=262144:=by
 grind [dGet,q5v]
def vsF(l:LB)(k:Nat):Nat×Nat:=numE l k 67108864
def q8(l:LB):Nat->Nat
 | 0=>vAt l 3
 | k+1=>q8 l k+vNum l k
def sE(l:LB):Nat×Nat:=
 if(errF (vsF l) 3).2≠0 then errF (vsF l) 3 else if l.length<q8 l 3 then(l.length,10)else if q8 l 3<l.length then(q8 l 3,13)else(0,0)
def sDict(l:LB)(k:Nat):LB:=(l.drop (q8 l k)).take (vNum l k)
def sdF(l:LB)(k:Nat):Nat×Nat:=if(dE (sDict l k)).2=0 then(0,0)else(q8 l k+(dE (sDict l k)).1,(dE (sDict l k)).2)
def wE(l:LB):Nat×Nat:=if(sE l).2≠0 then sE l else errF (sdF l) 3
def vTot(l:LB):Nat->Nat
 | 0=>0
 | k+1=>vTot l k+dN (sDict l k)
def qds(l:LB)(id:Nat):Nat:=if vTot l 2<id then 2 else if vTot l 1<id then 1 else 0
def tcF(l:LB)(k:Nat):Nat×Nat:=
 if(numE l k 1048576).2≠0 then numE l k 1048576 else if 0<k/\(vNum l k<vNum l (k-1)\/¬(vNum l (k-1)=0↔vNum l k=0))then(vAt l k,180)else(0,0)
def tvAt(l:LB):Nat->Nat
 | 0=>vAt l 4
 | k+1=>tvAt l k+1+(vNum l k*(l.getD (tvAt l k) 0).toNat+7)/8+(if k=0 then 0 else qa7 (vNum l k) (vNum l (k-1)))
def tw(l:LB)(k:Nat):Nat:=(l.getD (tvAt l k) 0).toNat
def tEnd(l:LB)(k:Nat):Nat:=tvAt l k+1+(vNum l k*tw l k+7)/8
def tvF(l:LB)(k:Nat):Nat×Nat:=if l.length<=tvAt l k then(l.length,10)else if 23<tw l k then(tvAt l k,14)else if l.length<tvAt l (k+1)then(l.length,10)else(0,0)
def tE(l:LB):Nat×Nat:=
 if(errF (tcF l) 4).2≠0 then errF (tcF l) 4 else if(errF (tvF l) 4).2≠0 then errF (tvF l) 4 else if tvAt l 4<l.length then(tvAt l 4,13)else(0,0)
def qg(l:LB)(k:Nat):LB:=(l.drop (tvAt l k+1)).take (tEnd l k-(tvAt l k+1))
def qd(l:LB)(k:Nat):LB:=(l.drop (tEnd l k)).take (tvAt l (k+1)-tEnd l k)
def tVec(l:LB)(k:Nat):Bool:=vOk (qd l k)&&decide (vN (qd l k)=vNum l k)&&decide (vM (qd l k)=vNum l (k-1))
def tUp(l:LB)(i:Nat):Nat->Nat
 | 0=>i
 | j+1=>qfa (qd l (3-j)) (tUp l i j)
def qhl(l:LB)(i j:Nat):Bool:=decide (tUp l i j<vNum l (3-j))&&(decide (j=3)||tVec l (3-j))
def tNum(l:LB)(i k:Nat):Nat:=numP (qg l k) (tw l k) (tUp l i (3-k))
def tOk(l:LB)(i:Nat):Bool:=qhl l i 0&&qhl l i 1&&qhl l i 2&&qhl l i 3
theorem qgg(l:LB)(k:Nat):tvAt l (k+1)=tEnd l k+(if k=0 then 0 else qa7 (vNum l k) (vNum l (k-1))):=rfl
def qn(l:LB):LB:=(l.drop 28).take (hN l 4)
def qr(l:LB):LB:=(l.drop (32+hN l 4)).take (hN l 5)
def packE(l:LB):Nat×Nat:=
 if(qb0 l).2≠0 then qb0 l else if(wE (qn l)).2≠0 then(28+(wE (qn l)).1,(wE (qn l)).2)
 else if(tE (qr l)).2≠0 then(32+hN l 4+(tE (qr l)).1,(tE (qr l)).2)else(0,0)
theorem qy1(x:Nat)(w:Dc)(H:x<18446744073709551616):Gv Do 259 [.int .u64 x] w λr w'=>r=ii (qae x)/\w'=w:=
 qun Jk (Tryz.bits_Len64 x w Oo Oo)
theorem qgk(x:Nat)(w:Dc)(H:x<18446744073709551616):Gv Do 190 [.int .u64 x] w λr w'=>r=ii (qae x)/\w'=w:=by
 refine ze Tryz.func190 Tryz.ntmps190 ?_;refine zcv (qy1 x w H) ?_;rintro r O ⟨rfl,rfl⟩;(conv=>whnf);exact⟨rfl,rfl⟩
theorem qer(x:Nat)(H:x≠0)(h:x<18446744073709551616):qae x=1+qae (x/2):=Go.Lib.bitLen_half x H (by simpa using h)
theorem qdb:qae 0=0:=by decide
theorem qes:∀(k x:Nat),x<2 ^ k->k<=64->qae x<=k
 | 0,x,h,_=>by
  obtain rfl:x=0:=by simpa using h
  rw[qdb];exact Ao _
 | k+1,x,h,O=>by
  by_cases H:x=0
  ·subst H;rw[qdb];exact An _
  ·have U:(2:Nat) ^ (k+1)<=2 ^ 64:=AQ Od O;rw[qer x H (AE h U)];have:=qes k (x/2) (by rw[CY]at h;omega) Oo;omega
theorem qkc(n:Nat)(w:Dc)(H:n<=4194304):Gv Do 316 [ii n] w λr w'=>r=ii (upN n 16)/\w'=w:=by
 refine ze Tryz.func316 Tryz.ntmps316 ?_;refine zv ?_;exact⟨Ad (Value.int .i64) (by unfold upN;omega),rfl⟩
structure DictAt(w:Dc)(b:Nat)(m:LB):Prop where
 h:∃P cp E ce,w.heap[b]?=some (.cells #[ii (dN m),ii (dW m),.slice P (qah m).length cp,.slice E (qc m).length ce] 395)/\SlAt encB 1 w P (qah m)/\SlAt encB 1 w E (qc m)/\(qc m).length<=ce
 n:dN m<=4194304
 size:quf m<=67108864
 qez:(qah m).length=(upN (dN m) 16*dW m+7)/8
 entries:(qc m).length=quf m
theorem DictAt.ext{m:LB}(h:DictAt w b m)(H:Ext w w'):DictAt w' b m:=by
 obtain⟨⟨P,O,E,U,W,Z,h3,h4⟩,h5,h6,h7,h8⟩:=h;exact⟨⟨P,O,E,U,H.get W,Z.ext H,h3.ext H,h4⟩,h5,h6,h7,h8⟩
theorem DictAt.width{m:LB}(h:DictAt w b m):dW m<=27:=qes 27 _ (by have:=h.size;simp only[Nat.reducePow];omega) Od
theorem qlo(b:Nat)(m:LB)(w:Dc)(h:DictAt w b m):Gv Do 177 [pp b] w λr w'=>r=ii (dN m)/\w'=w:=by
 obtain⟨⟨P,O,E,U,H,W,Z,h4⟩,h5,h6,h7,h8⟩:=h;refine ze Tryz.func177 Tryz.ntmps177 ?_;refine LoadV.own H rfl (zw ?_);exact⟨rfl,rfl⟩
theorem qoa(b:Nat)(m:LB)(k:Nat)(w:Dc)(h:DictAt w b m)(hk:k<upN (dN m) 16):Gv Do 323 [pp b,ii k] w λr w'=>r=ii (qy m k)/\w'=w:=by
 have hW:=h.width;obtain⟨⟨P,cp,E,ce,U,h2,h3,h4⟩,h5,h6,h7,h8⟩:=h;have Z:upN (dN m) 16<=4194304:=A4 (qbh _ _ Od) h5;obtain⟨W,eW⟩:∃W,W=dW m:=⟨_,rfl⟩
 rw[qy];rw[<-eW]at U h7 hW|-;have aa:k*W+W<=upN (dN m) 16*W:=by rw[<-Ch];exact Bc _ hk
 have ae:upN (dN m) 16*W<=4194304*27:=Bz Z hW;obtain⟨f,ef⟩:∃f,f=k*W:=⟨_,rfl⟩
 have ab:(k:Int)*(W:Int)=(f:Int):=by rw[ef,C5]
 rw[<-ef]at aa|-;refine ze Tryz.func323 Tryz.ntmps323 ?_;refine LoadV.own U rfl ?_;refine qm (λi:Nat=>[(0,pp b),(1,ii k),(5,ii (valB (qah m) f i)),(11,ii W),(12,ii i)]) (λi w'=>i<=W/\w'=w) (λi=>W-i) 0 fq ⟨An _,rfl⟩ ?_;rintro i w1 af ⟨i1,rfl⟩;have hv:=qre (qah m) f i;have ac:valB (qah m) f i<2 ^ 27:=qrd _ _ _ Oo;simp only[Nat.reducePow]at ac;(conv=>whnf);refine zC (λ_=>zw ?_) (λ_=>zw ?_)
 ·refine LoadV.own U rfl (zw ?_);rw[ab];refine zv ?_;refine LoadV.own U rfl (zu ?_);have hj:(f+i)/8<(qah m).length:=by omega
  refine ElemV.bs h2 rfl ((f+i)/8) Oo hj ?_;intro eb eo hc;refine LoadV.of hc (zu ?_);refine V.Wit.shrN ((f+i)%8) Oo (by show(f+i)%8<8;omega) ?_;have ad:=q9 (qah m)[(f+i)/8];have O:(qah m)[(f+i)/8].toNat/2 ^ ((f+i)%8)<256:=BC (CP _ _) ad;refine Wit.eq (qbo (k:=.u8) (m:=(qah m)[(f+i)/8].toNat/2 ^ ((f+i)%8)) 1 rfl (qdt O) ⟨by omega,by omega⟩) (zu ?_);have hb:(qah m)[(f+i)/8].toNat/2 ^ ((f+i)%8)%2 ^ 1=bitN (qah m) (f+i):=by
   rw[bitN,Am,zge hj];rfl
  rw[hb];have ag:=qre (qah m) f (i+1);have H:valB (qah m) f (i+1)<2 ^ 27:=qrd _ _ _ Oo;simp only[Nat.reducePow]at H;rw[valB]at H;refine V.Wit.shlN i Oo (by show i<64;omega) (qag Oo) ?_;refine Wit.eq (qbp i (qag Oo) hv) (zu ?_);exact⟨i+1,fq,⟨by omega,rfl⟩,by omega⟩
 ·obtain rfl:i=W:=by omega
  exact⟨rfl,rfl⟩
namespace V
theorem SliceV.to{H:Nat}{n:Nat}{Z O:Option Dh}{K:Dh->Prop}(a b m:Nat)(h1:bnd Z 0 a)(h2:bnd O n b)(h3:bnd mx c m)(U:a<=b)(W:b<=m)(hm:m<=c)(hs:mx.isSome=true->O.isSome=true)(hk:K (.slice (if m=a then A else A.map (·.add (a*H))) (b-a) (m-a))):SliceV H A n c Z O mx K:=
 ⟨a,b,m,h1,h2,h3,U,W,hm,hs,(by grind)⟩
end V
def hdL(m:LB)(k:Nat):Dm:=[ii (if 0<k then vNum m 0 else 0:Nat),ii (if 1<k then vNum m 1 else 0:Nat)]
theorem q7n{m:LB}(h:(dE m).2=0):(∀k,k<2->(numL (m.drop (vAt m k))).2.2=0/\vNum m k<=if k=0 then 4194304 else 67108864)/\dEnd m=m.length:=by
 have H:=qb8 (f:=dhF m) (n:=2) (by grind [dE]);exact⟨λk O=>by have:=H k O;grind [dhF,numE],by grind [dE]⟩
theorem qxm(m:LB)(A:oA)(c:Nat)(w:Dc)(hS:SlAt encB 1 w A m)(hc:m.length<=c)(hl:m.length<=140737488355328)(hE:(dE m).2=0):
  Gv Do 236 [.slice A m.length c] w λv w'=>(∃b,v=.tuple #[pp b,ii (qcb m),ii (qx m),.nilIface]/\w.heap.size<=b/\DictAt w' b m)/\Ext w w':=by
 obtain⟨aa,ax⟩:=q7n hE;have ad:BS w (.slice A m.length c) m:=⟨A,c,rfl,hc,hS⟩
 refine ze Tryz.func236 Tryz.ntmps236 ?_;refine zcv (qdj _ m w ad) ?_;rintro v w1 ⟨W,rfl,ae,af,ag⟩;have H:Mem w w1 [(W,curO 367 (.slice A m.length c) (vAt m 0) 0)]:=(Mem.nil w).fresh ag ae af;(conv=>whnf);refine znm H ?_;intro U w2 H;have H:Mem w w2 [(U,.cells (hdL m 0).toArray 431),(W,curO 367 (.slice A m.length c) (vAt m 0) 0)]:=H;(conv=>whnf);refine qm (λk:Nat=>[(0,.slice A m.length c),(2,.pointer none),(3,ii 0),(4,ii 0),(5,.nilIface),(6,pp W),(7,pp U),(16,.agg #[.int .u64 4194304,.int .u64 67108864]),(17,ii k)])
  (λk w'=>k<=2/\Mem w w' [(U,.cells (hdL m k).toArray 431),(W,curO 367 (.slice A m.length c) (vAt m k) 0)]) (λk=>2-k) 0
  fq (by grind) ?_
 clear H af ag ae;rintro k w3 az ⟨k1,H⟩;(conv=>whnf);refine zC (λ_=>zu ?_) (λ_=>zu ?_)
 ·have hv:BS w3 (.slice A m.length c) m:=ad.ext H.ext;have an:=qpa m k;have a0:=qrb m k;have ab:∃mo:Nat,mo=(if k=0 then 4194304 else 67108864)/\(#[Value.int .u64 4194304,.int .u64 67108864]:Dp).toList[k*tsz Do 164]?=some (.int .u64 mo):=by
   refine⟨_,rfl,?_⟩;rw[show tsz Do 164=1 from by kernel_rfl]
   grind
  obtain⟨mo,ao,aq⟩:=ab;refine⟨_,aq,?_⟩;(conv=>whnf);refine zcv (qir W _ (vAt m k) 0 w3 (H.get (zmc mh))) ?_;rintro r w4 ⟨rfl,rfl⟩;(conv=>whnf);refine zcv (qda W _ (vAt m k) 0 m _ (H.get (zmc mh)) hv an hl) ?_;rintro r w5 ⟨rfl,hu⟩;obtain⟨he,Z⟩:=aa k Oo;rw[<-ao]at Z;rw[qm0 he,qm1 he]at hu;rw[qmz he];have H:Mem w w5 [(U,.cells (hdL m k).toArray 431),(W,curO 367 (.slice A m.length c) (vAt m (k+1)) 0)]:=H.upd (i:=1) rfl hu;(conv=>whnf);refine zcv (qe5 W _ _ 0 w5 (H.get (zmc mh))) ?_;rintro r w6 ⟨rfl,rfl⟩;refine zu ?_;have ay:mo<=67108864:=by grind
  refine Wit.conv (qag Oo) (zu ?_);have e2:0+k*tsz Do 3=k:=by rw[show tsz Do 3=1 from by kernel_rfl];omega
  refine StoreV.mem H (i:=0) rfl (by grind [hdL]) rfl ?_;intro w8 H;rw[e2]at H;have ah:(hdL m k).toArray.setIfInBounds k (ii (vNum m k))=(hdL m (k+1)).toArray:=by
   obtain rfl|rfl:k=0\/k=1:=by omega
   all_goals rfl
  have H:Mem w w8 [(U,.cells (hdL m (k+1)).toArray 431),(W,curO 367 (.slice A m.length c) (vAt m (k+1)) 0)]:=by rw[<-ah];exact H
  refine zu ?_;refine⟨k+1,fq,⟨by omega,H⟩,by omega⟩
 ·obtain rfl:k=2:=by omega
  have H:Mem w w3 [(U,.cells #[ii (vNum m 0),ii (vNum m 1)] 431),(W,curO 367 (.slice A m.length c) (vAt m 2) 0)]:=H;have ac:vNum m 0<=4194304:=(aa 0 Oo).2;have g2:vNum m 1<=67108864:=(aa 1 Oo).2;have ar:dW m<=27:=qes 27 _ (by show vNum m 1<_;omega) Od;refine DrawV.free Jk Jk (zw ?_);refine zf ?_ (by intro wd U;(conv=>whnf);refine zJ 0 ?_;(conv=>whnf);exact xq);refine zLd ?_;refine zf ?_ (by intro wd U;(conv=>whnf);refine zJ 1 ?_;(conv=>whnf);exact xq);refine zLd ?_;refine zd ?_;apply zsd
  ·intro wd U;(conv=>whnf);refine zcv (qgk (vNum m 1) wd Oo) ?_;rintro v w9 ⟨rfl,rfl⟩;exact xq
  (conv=>whnf);refine zd ?_;apply StepD.of (λv wx=>∃b,v=pp b/\w3.drew.heap.size<=b/\wx.heap[b]?=some (.cells #[ii (dN m),ii (dW m),.slice none 0 0,.slice none 0 0] 395))
   (λ_ _ _ h he=>let⟨b,h1,h2,h3⟩:=h;⟨b,h1,h2,he.get h3⟩)
  ·intro wd U;(conv=>whnf);refine⟨λx wx hb hw=>?_⟩;subst hb hw;(conv=>whnf);exact⟨xr.alloc _,_,rfl,U.size,heap_alloc_new _ _⟩
  (conv=>whnf);apply StepD.of (λv wx=>∃b,v=pp b/\w3.drew.heap.size<=b/\wx.heap[b]?=some (.cells #[ii (dN m),ii (dW m),.slice none 0 0,.slice none 0 0] 395))
   (λ_ _ _ h he=>let⟨b,h1,h2,h3⟩:=h;⟨b,h1,h2,he.get h3⟩)
  ·intro wd U;(conv=>whnf);rintro _ _;(conv=>whnf);rintro v ⟨b,rfl,h1,h2⟩;conv=>whnf
   grind [Ext.refl]
  (conv=>whnf);intro w9 au;(conv=>whnf);rintro v ⟨b,rfl,hb,ho⟩;(conv=>whnf);intro _ _;(conv=>whnf);have H:=H.drew.fresh au hb ho;refine zcv (qir W _ (vAt m 2) 0 w9 (H.get (zmc (zmc mh)))) ?_;rintro r av ⟨rfl,rfl⟩;(conv=>whnf);have aw:upN (dN m) 16<=4194304:=A4 (qbh _ _ Od) ac;have ai:upN (dN m) 16*dW m<=4194304*27:=Bz aw ar;obtain⟨f,ef⟩:∃f,f=upN (dN m) 16*dW m:=⟨_,rfl⟩
  have a1:((upN (dN m) 16:Nat):Int)*((dW m:Nat):Int)=(f:Int):=by omega
  rw[<-ef]at ai;have e3:qcb m=vAt m 2:=rfl;have e4:qx m=qcb m+(f+7)/8:=by rw[ef];rfl
  have e5:dEnd m=qx m+vNum m 1:=rfl;have a2:=qpa m 2;refine zy ?_;have H:=H.drew;refine zt ?_;refine LoadV.mem (i:=0) Oa rfl rfl (zw ?_);refine zt ?_;refine⟨ii (upN (dN m) 16),qkc (dN m) _ ac,?_⟩;(conv=>whnf);refine zt ?_;refine LoadV.mem (i:=0) Oa rfl rfl (zw ?_);refine zt ?_;refine zJ 1 ?_;(conv=>whnf);refine LoadV.mem (i:=1) Oa rfl rfl (zw ?_);refine zt ?_;obtain⟨aj,ak⟩:∃aj:Dc,aj=av.drew:=⟨_,rfl⟩
  rw[<-ak]at H|-;obtain⟨PV,al⟩:∃PV:Dh,PV=.slice (if c=qcb m then A else A.map (·.add (qcb m*1))) (qx m-qcb m) (c-qcb m):=⟨_,rfl⟩
  obtain⟨EV,am⟩:∃EV:Dh,EV=.slice (if c=qx m then A else A.map (·.add (qx m*1))) (dEnd m-qx m) (c-qx m):=⟨_,rfl⟩
  refine DrawV.inv (λS w'=>Mem w w' [(b,.cells #[ii (dN m),ii (dW m),(bif S 12 then PV else .slice none 0 0),(bif S 15 then EV else .slice none 0 0)] 395),(U,.cells #[ii (vNum m 0),ii (vNum m 1)] 431),(W,curO 367 (.slice A m.length c) (vAt m 2) 0)]) rfl Jk H.drew (zw ?_);(iterate 5 (refine zi ?_));refine StepI.of PV (λS wd hk hp O=>zw ?_) (zw ?_)
  ·refine SliceV.to (qcb m) (qx m) c (by rfl) (by rfl) rfl Oo Oo Oo (λh=>by cases h) (zw ?_);exact⟨al.symm,O⟩
  (iterate 3 (refine zi ?_));refine StepI.of EV (λS wd hk hp O=>zw ?_) ?_
  ·refine SliceV.to (qx m) (dEnd m) c (by rfl) (by rfl) rfl Oo Oo Oo (λh=>by cases h) (zw ?_);exact⟨am.symm,O⟩
  subst al am;(conv=>whnf);refine zi ?_;refine zi ?_;refine StepI.of undef (λS wd hk hp O=>?_) (zw ?_)
  ·dsimp only at O;rw[hk]at O;(conv=>whnf);refine StoreV.mem O (i:=0) rfl (show 2<4 by decide) rfl λwx Z=>zw ?_;exact⟨rfl,Z⟩
  refine zi ?_;refine zi ?_;refine StepI.of undef (λS wd hk hp O=>?_) (zw ?_)
  ·dsimp only at O;rw[hk]at O;(conv=>whnf);refine StoreV.mem O (i:=0) rfl (show 3<4 by decide) rfl λwx Z=>zw ?_;exact⟨rfl,Z⟩
  intro a3 O;(conv=>whnf);obtain⟨o1,o2⟩:=O.own _ mh;have l1:(qah m).length=qx m-qcb m:=by grind [qah]
  have l2:(qc m).length=dEnd m-qx m:=by grind [qc]
  have e9:(((vAt m 2:Nat):Int)+(((upN (dN m) 16:Nat):Int)*((dW m:Nat):Int)+7)/8)=((qx m:Nat):Int):=by omega
  rw[e9];have c1:SlAt encB 1 w (if c=qcb m then A else A.map (·.add (qcb m*1))) (qah m):=hS.cut (m:=c) Oo Oo Oo rfl;have c2:SlAt encB 1 w (if c=qx m then A else A.map (·.add (qx m*1))) (qc m):=by
   have:=hS.cut (m:=c) (lo:=qx m) (hi:=m.length) (A':=if c=qx m then A else A.map (·.add (qx m*1))) Oo Oo Oo rfl
   rwa[Ay Js]at this
  refine⟨⟨b,rfl,o1,⟨⟨_,c-qcb m,_,c-qx m,?_,c1.ext O.ext,c2.ext O.ext,?_⟩,ac,g2,?_,?_⟩⟩,O.ext⟩
  ·grind
  ·omega
  ·omega
  ·rw[l2];show _=vNum m 1;omega
theorem q2w(m:LB)(A:oA)(c:Nat)(w:Dc)(O:SlAt encB 1 w A m)(U:m.length<=c)(W:m.length<=140737488355328)(Z:(dE m).2=0):
  Gv Do 164 [.slice A m.length c] w λv w'=>(∃b,v=.tuple #[pp b,.nilIface]/\w.heap.size<=b/\DictAt w' b m)/\Ext w w':=by
 have H:=qxm m A c w O U W Z;refine ze Tryz.func164 Tryz.ntmps164 ?_;refine zcv (H) ?_;rintro v w1 ⟨⟨b,rfl,hb,hD⟩,he⟩;(conv=>whnf);exact⟨⟨b,rfl,hb,hD⟩,he⟩
theorem q5m(s:Dh)(n m b:Nat)(w:Dc)(H:w.heap[b]?=some (vecO 381 s n m)):Gv Do 170 [pp b] w λr w'=>r=ii n/\w'=w:=by
 refine ze Tryz.func170 Tryz.ntmps170 ?_;refine LoadV.own H rfl (zw ?_);simp
theorem q1q(s:Dh)(n m b:Nat)(w:Dc)(H:w.heap[b]?=some (vecO 381 s n m)):Gv Do 171 [pp b] w λr w'=>r=ii m/\w'=w:=by
 refine ze Tryz.func171 Tryz.ntmps171 ?_;refine LoadV.own H rfl (zw ?_);simp
theorem qjc(x:Nat)(w:Dc)(H:x<256):Gv Do 301 [.int .u8 x] w λr w'=>r=ii (qd4 x)/\w'=w:=by
 refine ze Tryz.func301 Tryz.ntmps301 ?_;refine IdxV.nat (by show x<256;exact H) (zw ?_);refine Wit.conv (by grind [qag,q9]) (zw ?_);refine⟨Ad (Value.int .i64) (Ad Int.ofNat ?_),rfl⟩;clear w
 revert x
 decide +kernel
theorem qtf(l:LB)(A:oA)(c b i:Nat)(w:Dc)(hS:SlAt encB 1 w A l)(hc:l.length<=c)(hv:vOk l=true)(Z:w.heap[b]?=some (vecO 381 (.slice A l.length c) (vN l) (vM l)))(hi:i<=67108864):
  Gv Do 224 [pp b,ii i] w λr w'=>r=ii (qfa l i)/\Ext w w':=by
 refine ze Tryz.func224 Tryz.ntmps224 ?_;simp only[vOk,AB,decide_eq_true_eq]at hv;obtain⟨⟨⟨v1,v2⟩,v3⟩,v4⟩:=hv;have u1:=qbh (vN l) 8 Od;have u2:=qbh (vN l) 2048 Od;have u3:=qbh (vN l) 256 Od;have u4:=qbh (vM l) 512 Od;have g1:qi (vN l)=8+upN (vN l) 8:=rfl;have g2:qz (vN l)=qi (vN l)+4*upN (vN l) 2048:=rfl;have g3:qak (vN l)=qz (vN l)+2*upN (vN l) 256:=rfl;have g4:qa7 (vN l) (vM l)=qak (vN l)+4*upN (vM l) 512:=rfl;rw[qfa];refine zC (λ_=>zu ?_) (λ_=>zu ?_)
 ·grind [Ext.refl]
 refine LoadV.own Z rfl (zw ?_);refine zt ?_;refine zC (λ_=>zw ?_) (λ_=>zw ?_)
 ·grind [Ext.refl]
 refine LoadV.own Z rfl (zw ?_);refine zC (λ_=>zw ?_) (λ_=>zw ?_)
 ·refine LoadV.own Z rfl (zw ?_)
  grind [Ext.refl]
 obtain⟨g,off,hA,_⟩:=hS.at_ (by grind);subst hA;have k1:i/2048+1<=upN (vN l) 2048:=by unfold upN;omega
 have k2:i/256+1<=upN (vN l) 256:=by unfold upN;omega
 have k3:i/8+1<=upN (vN l) 8:=by unfold upN;omega
 refine DrawV.free Jk Jk (zw ?_);(iterate 3 (refine zd ?_));refine zf ?_ (by intro wd W;(conv=>whnf);refine LoadV.own (Ext.get (Ext.trans (Ext.drew xr) W) Z) rfl ?_;(conv=>whnf);exact xq);(iterate 4 (refine zd ?_));refine zf ?_ (by intro wd W;(conv=>whnf);refine LoadV.own (Ext.get (Ext.trans (Ext.drew xr) W) Z) rfl ?_;(conv=>whnf);exact xq);(iterate 4 (refine zd ?_));apply zsd
 ·intro wd W;(conv=>whnf);refine SliceV.rest (qi (vN l)+4*(i/2048)) (by rfl) hc Oo (zw ?_);exact xq
 (conv=>whnf);apply zsd
 ·intro wd W;(conv=>whnf);refine zcv (qlv (l.drop (qi (vN l)+4*(i/2048))) _ _ _ wd (SlAt.rest (hS.ext ((Ext.refl w).drew.trans W)) Oo) (by rw[zld]) (by rw[zld];omega)) ?_;rintro v w9 ⟨rfl,h9⟩;exact⟨h9,rfl⟩
 (conv=>whnf);(iterate 3 (refine zd ?_));refine zf ?_ (by intro wd W;(conv=>whnf);refine LoadV.own (Ext.get (Ext.trans (Ext.drew xr) W) Z) rfl ?_;(conv=>whnf);exact xq);(iterate 4 (refine zd ?_));refine zf ?_ (by intro wd W;(conv=>whnf);refine LoadV.own (Ext.get (Ext.trans (Ext.drew xr) W) Z) rfl ?_;(conv=>whnf);exact xq);(iterate 4 (refine zd ?_));apply zsd
 ·intro wd W;(conv=>whnf);refine SliceV.rest (qz (vN l)+2*(i/256)) (by rfl) hc Oo (zw ?_);exact xq
 (conv=>whnf);apply zsd
 ·intro wd W;(conv=>whnf);refine zcv (q98 (l.drop (qz (vN l)+2*(i/256))) _ _ _ wd (SlAt.rest (hS.ext ((Ext.refl w).drew.trans W)) Oo) (by rw[zld]) (by rw[zld];omega)) ?_;rintro v w9 ⟨rfl,h9⟩;exact⟨h9,rfl⟩
 (conv=>whnf);have hG:=qbf (l.drop (qi (vN l)+4*(i/2048))) 4 (by grind);have hH:=qbf (l.drop (qz (vN l)+2*(i/256))) 2 (by grind);obtain⟨G,eG⟩:∃G,G=leN ((l.drop (qi (vN l)+4*(i/2048))).take 4):=⟨_,rfl⟩
 obtain⟨H,eH⟩:∃H,H=leN ((l.drop (qz (vN l)+2*(i/256))).take 2):=⟨_,rfl⟩
 rw[<-eG]at hG|-;rw[<-eH]at hH|-;simp only[Nat.reduceMul,Nat.reducePow]at hG hH;refine zd ?_;refine zd ?_;intro w1 ac;(conv=>whnf);have hx:=(Ext.refl w).drew.trans ac;refine zv ?_;have ad:∀k,k<=i%256/8->qa6 l (8+i/256*32) k<=8*k:=λk hk=>by
  clear hG hH
  induction k<;>grind [qd4,qa6]
 refine qm (λk:Nat=>[(0,pp b),(1,ii i),(5,ii (G+H+qa6 l (8+i/256*32) k:Nat)),(7,ii (i/256*256+8*k:Nat))]) (λk w'=>k<=i%256/8/\Ext w w') (λk=>i%256/8-k) 0
  ⟨rfl,rfl,by rfl,by simp;rfl,trivial⟩ (by grind) ?_
 rintro k w2 ah ⟨k1,ab⟩;have hk:=ad k k1;(conv=>whnf);refine zt ?_;refine zC (λ_=>zw ?_) (λ_=>zw ?_)
 ·refine zy ?_;refine zv ?_;have O:=ab.drew;refine LoadV.own (O.get Z) rfl (zu ?_);refine LoadV.own (O.get Z) rfl (zu ?_);have hj:8+i/256*32+k<l.length:=by omega
  refine ElemV.bs (hS.ext O) rfl (8+i/256*32+k) Oo hj ?_;intro eb eo U;have aa:=q9 (l[8+i/256*32+k]);refine zu ?_;refine LoadV.of U (zu ?_);refine⟨ii (qd4 (l[8+i/256*32+k]).toNat),qjc _ _ aa,?_⟩;have h8:qd4 (l[8+i/256*32+k]).toNat<=8:=by unfold qd4;omega
  have ae:qa6 l (8+i/256*32) (k+1)=qa6 l (8+i/256*32) k+qd4 (l[8+i/256*32+k]).toNat:=by
   grind [qa6]
  refine zu ?_;exact⟨k+1,⟨rfl,rfl,by rw[ae];exact Ad (Value.int .i64) Oo,by rfl,trivial⟩,(by grind),by omega⟩
 ·obtain rfl:k=i%256/8:=by omega
  refine zy ?_;refine zv ?_;have O:=ab.drew;refine LoadV.own (O.get Z) rfl (zu ?_);refine LoadV.own (O.get Z) rfl (zu ?_);have hj:8+i/8<l.length:=by omega
  refine ElemV.bs (hS.ext O) rfl (8+i/8) Oo hj ?_;intro eb eo U;have aa:=q9 (l[8+i/8]);have af:2 ^ (i%8)<=2 ^ 7:=AQ Od Oo;have ai:=Nat.two_pow_pos (i%8);simp only[Nat.reducePow]at af;refine zu ?_;refine LoadV.of U (zu ?_);refine V.Wit.shlN (a:=1) (i%8) Oo (by show i%8<8;omega) (qdt Oo) ?_;rw[Nat.one_mul];refine zu ?_;refine Wit.eq (qbo (k:=.u8) (m:=(l[8+i/8]).toNat) (i%8) Oo (qdt aa) ⟨by omega,by omega⟩) ?_;have ag:(l[8+i/8]).toNat%2 ^ (i%8)<256:=(by omega)
  refine zu ?_;refine⟨ii (qd4 ((l[8+i/8]).toNat%2 ^ (i%8))),qjc _ _ ag,?_⟩;have h8:qd4 ((l[8+i/8]).toNat%2 ^ (i%8))<=8:=by unfold qd4;omega
  refine zu ?_;refine V.Fall.max2 rfl rfl rfl λmx aj=>?_;(conv=>whnf);refine V.Fall.min2 rfl rfl rfl λmn ak=>?_;conv=>whnf
  grind
theorem qbt(b off i wd cp:Nat)(P:oA)(p:LB)(w:Dc)(W:w.cell? ⟨b,off+1,none⟩=some (ii wd))(h5:w.cell? ⟨b,off+5,none⟩=some (.slice P p.length cp))(hP:SlAt encB 1 w P p)(hw:wd<=23)(hi:i<=4194304):
  Gv Do 129 [.pointer (some ⟨b,off,none⟩),ii i] w λr w'=>r=ii (numP p wd i)/\Ext w w':=by
 have hb:i*wd<=4194304*23:=Bz hi hw;rw[numP];obtain⟨f,ef⟩:∃f,f=i*wd:=⟨_,rfl⟩
 have Z:(i:Int)*(wd:Int)=(f:Int):=by rw[ef,C5]
 rw[<-ef]at hb|-;obtain⟨m,em⟩:∃m,m=p.drop (f/8):=⟨_,rfl⟩
 have ae:m.length=p.length-f/8:=by rw[em,zld]
 rw[<-em];refine ze Tryz.func129 Tryz.ntmps129 ?_;refine LoadV.of W (zw ?_);rw[Z];refine zv ?_;refine qm (λk:Nat=>[(0,.pointer (some ⟨b,off,none⟩)),(5,ii f),(6,ii (leN (m.take k))),(7,ii k)]) (λk w'=>k<=4/\k<=m.length/\w'=w) (λk=>4-k) 0 fq ⟨by omega,by omega,rfl⟩ ?_;rintro k w1 af ⟨k1,k2,rfl⟩;have aa:=qbf m k k2;have hp:=pow8 k k1;have H:∀x,x=leN (m.take 4)->x<4294967296:=λx O=>by
  rw[O];have:=qyz (m.take 4);have h3:256 ^ (m.take 4).length<=256 ^ 4:=AQ Od Ys;have h4:(256:Nat) ^ 4=4294967296:=by decide
  omega
 have ab:2 ^ wd<=2 ^ 23:=AQ Od hw;have ag:=Nat.two_pow_pos wd;simp only[Nat.reducePow]at ab;(conv=>whnf);refine zC (λ_=>zu ?_) (λ_=>zu ?_)
 ·refine LoadV.of h5 (zw ?_);refine zt ?_;refine zC (λ_=>zw ?_) (λ_=>zw ?_)
  ·have hk:k<m.length:=by omega
   refine LoadV.of h5 (zu ?_);refine ElemV.bs hP rfl (f/8+k) Oo Oo ?_;intro eb eo hc;have ac:p[f/8+k]' Oo=m[k]:=by simp[em]
   rw[ac]at hc;have ah:=q9 m[k];have hp:=pow8 (k+1) Oo;have U:=qbf m (k+1) Oo;rw[qif m k hk]at U;(conv=>whnf);refine LoadV.of hc (zu ?_);refine V.Wit.shlN (8*k) Oo (by show 8*k<64;omega) (qag Oo) (zw ?_);refine Wit.eq (qbp (8*k) (qag Oo) aa) (zu ?_);exact⟨k+1,⟨rfl,rfl,by rw[qif m k hk];rfl,rfl,trivial⟩,⟨by omega,by omega,rfl⟩,by omega⟩
  ·have e4:leN (m.take k)=leN (m.take 4):=by rw[Ay Oo,Ay Oo]
   rw[e4];have O:=H _ rfl;generalize leN (m.take 4)=x at O|-;have ad:x/2 ^ (f%8)<=x:=CP _ _;refine zy ?_;refine zv ?_;refine V.Wit.shrN (f%8) Oo (by show f%8<64;omega) (zu ?_);refine LoadV.of W (zu ?_);refine V.Wit.shlN (a:=1) wd Oo (by show wd<64;omega) (qag Oo) ?_;rw[Nat.one_mul];refine zu ?_;refine Wit.eq (qbo (k:=.i64) (m:=x/2 ^ (f%8)) wd Oo (qag Oo) ⟨by omega,by omega⟩) (zu ?_);exact⟨rfl,(Ext.refl w1).drew⟩
 ·obtain rfl:k=4:=by omega
  have O:=H _ rfl;generalize leN (m.take 4)=x at O|-;have ad:x/2 ^ (f%8)<=x:=CP _ _;refine zy ?_;refine zv ?_;refine V.Wit.shrN (f%8) Oo (by show f%8<64;omega) (zu ?_);refine LoadV.of W (zu ?_);refine V.Wit.shlN (a:=1) wd Oo (by show wd<64;omega) (qag Oo) ?_;rw[Nat.one_mul];refine zu ?_;refine Wit.eq (qbo (k:=.i64) (m:=x/2 ^ (f%8)) wd Oo (qag Oo) ⟨by omega,by omega⟩) (zu ?_);exact⟨rfl,(Ext.refl w1).drew⟩
def fnA(n:Nat)(F:Dj):Dp:=((List.range n).map F).toArray
def updF(F:Dj)(i:Nat)(v:Dh):Nat->Dh:=λj=>if j=i then v else F j
theorem qav(F:Dj)(i:Nat)(v:Dh):updF F i v i=v:=by simp[updF]
theorem q6(F:Dj)(i j:Nat)(v:Dh)(h:j≠i):updF F i v j=F j:=by simp[updF,h]
theorem qa9(n:Nat)(F:Dj):(fnA n F).size=n:=by simp[fnA]
theorem qa8(n:Nat)(F:Dj)(i:Nat)(h:i<n):(fnA n F)[i]?=some (F i):=by
 rw[fnA,Az,Ar,B4 h];rfl
theorem qdx(n:Nat)(F:Dj)(i:Nat)(v:Dh):(fnA n F).setIfInBounds i v=fnA n (updF F i v):=by
 rw[<-Br];simp only[fnA,BQ];apply Bi;intro j;rw[BP,Ar,Ar]
 by_cases e:i=j
 ·subst e;rw[Af rfl]
  by_cases h:i<n
  ·rw[Af (by simpa using h),B4 h];simp[updF]
  ·rw[Ab (by simpa using h),AS (by simpa using h)];rfl
 ·rw[Ab e]
  by_cases h:j<n
  ·rw[B4 h];simp[updF,Ne.symm e]
  ·rw[AS (by simpa using h)];rfl
theorem qdw{n:Nat}{F G:Dj}(h:∀j,j<n->F j=G j):fnA n F=fnA n G:=by
 unfold fnA
 congr 1
 exact C0 λj H=>h j (by simpa using H)
theorem V.LoadV.fn{n:Nat}{F:Dj}{t:Df}{v:Dh}{K:Dh->Prop}(h:Mem w0 w L)(H:L[i]?=some (b,.cells (fnA n F) t))(j:Nat)(e:off=j)(O:j<n)(U:F j=v)(W:K v):LoadV w b off K:=by
 subst e;exact LoadV.mem h H (by rw[qa8 n F _ O,U]) W
theorem V.StoreV.fn{n:Nat}{F:Dj}{t:Df}{v:Dh}{K:Dk}(h:Mem w0 w L)(H:L[i]?=some (b,.cells (fnA n F) t))(j:Nat)(e:off=j)(O:j<n)(U:qb5 v=true)(W:∀w',Mem w0 w' (L.set i (b,.cells (fnA n (updF F j v)) t))->K w'):StoreV w b off v K:=by
 subst e;refine StoreV.mem h H (by rw[qa9];exact O) U λw' Z=>W w' ?_
 rwa[qdx]at Z
theorem lvSz:tsz Do 244=8:=by kernel_rfl
theorem q41(h:(tcF l k).2=0):(numL (l.drop (vAt l k))).2.2=0/\vNum l k<=1048576/\(0<k->vNum l (k-1)<=vNum l k/\(vNum l k=0↔vNum l (k-1)=0)):=by grind [tcF,numE]
theorem qv6(l:LB)(v:Dh)(U O:Nat)(F:Dj)(w0 w:Dc)(H:Mem w0 w [(O,curO 367 v 0 0),(U,.cells (fnA 32 F) 247)])(aa:BS w0 v l)(hl:l.length<=140737488355328)(hz:∀k,k<4->(tcF l k).2=0):
  Gv Do 165 [pp U,pp O] w λr w'=>
   r=.nilIface/\∃F',(∀k,k<4->F' (8*k)=ii (vNum l k))/\(∀j,j%8≠0->F' j=F j)/\Mem w0 w' [(O,curO 367 v (vAt l 4) 0),(U,.cells (fnA 32 F') 247)]:=by
 refine ze Tryz.func165 Tryz.ntmps165 ?_;refine qm (λx:Nat×Dj=>[(0,pp U),(1,pp O),(4,.nilIface),(9,ii x.1)])
  (λx w'=>x.1<=4/\(∀k,k<x.1->x.2 (8*k)=ii (vNum l k))/\(∀j,j%8≠0->x.2 j=F j)/\Mem w0 w' [(O,curO 367 v (vAt l x.1) 0),(U,.cells (fnA 32 x.2) 247)]) (λx=>4-x.1) (0,F)
  fq ⟨by simp,λj h=>by simp at h,λj _=>rfl,H⟩ ?_
 clear H;rintro⟨k,W⟩ w1 ac ⟨k1,hF,Z,H⟩;dsimp only at k1 hF Z H|-;(conv=>whnf);refine zC (λ_=>zw ?_) (λ_=>zw ?_)
 ·have hv:BS w1 v l:=aa.ext H.ext;have ab:=qpa l k;have ad:=qrb l k;refine zcv (qir O _ (vAt l k) 0 w1 (H.get mh)) ?_;rintro r w2 ⟨rfl,rfl⟩;(conv=>whnf);refine zcv (qda O _ (vAt l k) 0 l _ (H.get mh) hv ab hl) ?_;rintro r w3 ⟨rfl,hu⟩;obtain⟨he,g2,g3⟩:=q41 (hz k Oo);rw[qm0 he,qm1 he]at hu;rw[qmz he];have H:Mem w0 w3 [(O,curO 367 v (vAt l (k+1)) 0),(U,.cells (fnA 32 W) 247)]:=H.upd (i:=0) rfl hu;(conv=>whnf);refine zcv (qe5 O _ _ 0 w3 (H.get mh)) ?_;rintro r w4 ⟨rfl,rfl⟩;refine zu ?_;refine StoreV.fn H (i:=1) rfl (8*k) (by rw[lvSz];dsimp only;omega) Oo rfl ?_;intro w5 H;have H:Mem w0 w5 [(O,curO 367 v (vAt l (k+1)) 0),(U,.cells (fnA 32 (updF W (8*k) (ii (vNum l k)))) 247)]:=H;(conv=>whnf);refine zC (λ_=>zu ?_) (λ_=>zu ?_)
  ·refine IdxV.at_ (k-1) Oo Oo (zu ?_);refine LoadV.fn (v:=ii (vNum l (k-1))) H (i:=1) rfl (8*(k-1)) (by rw[lvSz];dsimp only;omega) Oo (by rw[q6 _ _ _ _ Oo];exact hF (k-1) Oo) (zu ?_);refine IdxV.at_ (k-1) Oo Oo (zu ?_);refine LoadV.fn (v:=ii (vNum l (k-1))) H (i:=1) rfl (8*(k-1)) (by rw[lvSz];dsimp only;omega) Oo (by rw[q6 _ _ _ _ Oo];exact hF (k-1) Oo) (zu ?_);refine Tst.iff (vNum l (k-1)=0↔vNum l k=0) (by rw[C7,decide_eq_decide];omega) (λh=>?_) (λh=>absurd (g3 Oo).2.symm h);refine zu ?_;exact⟨(k+1,updF W (8*k) (ii (vNum l k))),fq,⟨by simp only;omega,λj hj=>by grind [updF],λj hj=>by grind [updF],H⟩,by simp only;omega⟩
  ·exact⟨(k+1,updF W (8*k) (ii (vNum l k))),fq,⟨by simp only;omega,λj hj=>by grind [updF],λj hj=>by grind [updF],H⟩,by simp only;omega⟩
 ·obtain rfl:k=4:=by omega
  exact⟨rfl,W,hF,Z,H⟩
def VecP(w:Dc)(V s:Dh)(l:LB)(k:Nat):Prop:=
 ((k=0\/tVec l k=false)/\V=.pointer none)\/(0<k/\tVec l k=true/\∃H,V=pp H/\w.heap[H]?=some (vecO 381 s (vNum l k) (vNum l (k-1))))
structure LvAt(w:Dc)(b:Nat)(l:LB)(k:Nat):Prop where
 h:∃P cp S cs V,CellsAt w b (8*k) [ii (vNum l k),ii (tw l k),ii (tvAt l k),ii (tvAt l k+1:Nat),ii (tEnd l k),.slice P (qg l k).length cp,.slice S (qd l k).length cs,V]/\
  SlAt encB 1 w P (qg l k)/\SlAt encB 1 w S (qd l k)/\(qd l k).length<=cs/\VecP w V (.slice S (qd l k).length cs) l k
theorem VecP.ext{V s:Dh}(h:VecP w V s l k)(H:Ext w w'):VecP w' V s l k:=by
 rcases h with h|⟨O,U,W,Z,h4⟩
 ·exact .inl h
 ·exact .inr ⟨O,U,W,Z,H.get h4⟩
theorem LvAt.ext(h:LvAt w b l k)(H:Ext w w'):LvAt w' b l k:=by
 obtain⟨P,O,S,U,V,W,Z,h3,h4,h5⟩:=h;exact⟨P,O,S,U,V,W.ext H,Z.ext H,h3.ext H,h4,h5.ext H⟩
structure TreeAt(w:Dc)(b:Nat)(l:LB):Prop where
 lv:∀k,k<4->LvAt w b l k
 n:∀k,k<4->vNum l k<=1048576
 wd:∀k,k<4->tw l k<=23
theorem TreeAt.ext(h:TreeAt w b l)(H:Ext w w'):TreeAt w' b l:=⟨λk O=>(h.lv k O).ext H,h.n,h.wd⟩
def tF0(j:Nat):Dh:=if j%8<5 then ii 0 else if j%8<7 then .slice none 0 0 else .pointer none
def tPV(A:oA)(c:Nat)(l:LB)(k:Nat):Dh:=.slice (if c=tvAt l k+1 then A else A.map (·.add ((tvAt l k+1)*1))) (tEnd l k-(tvAt l k+1)) (c-(tvAt l k+1))
def tSV(A:oA)(c:Nat)(l:LB)(k:Nat):Dh:=.slice (if c=tEnd l k then A else A.map (·.add (tEnd l k*1))) (tvAt l (k+1)-tEnd l k) (c-tEnd l k)
def VecM(L:Dl)(V s:Dh)(l:LB)(k:Nat):Prop:=
 ((k=0\/tVec l k=false)/\V=.pointer none)\/(0<k/\tVec l k=true/\∃H,V=pp H/\(H,vecO 381 s (vNum l k) (vNum l (k-1)))∈L)
theorem VecM.more{x:Nat×Obj}{V s:Dh}(h:VecM L V s l k):VecM (x::L) V s l k:=by
 rcases h with h|⟨H,O,U,W,Z⟩
 ·exact .inl h
 ·exact .inr ⟨H,O,U,W,zmc Z⟩
def lvV(A:oA)(c:Nat)(l:LB)(k i:Nat)(v:Dh):Dh:=
 match i with
 | 0=>.int .i64 (vNum l k)
 | 1=>.int .i64 (tw l k)
 | 2=>.int .i64 (tvAt l k)
 | 3=>.int .i64 ((tvAt l k:Int)+1)
 | 4=>.int .i64 (tEnd l k)
 | 5=>tPV A c l k
 | 6=>tSV A c l k
 | _=>v
def tFk(A:oA)(c:Nat)(l:LB)(V:Dj)(k x:Nat):Dh:=if x%8=0\/x/8<k then lvV A c l (x/8) (x%8) (V (x/8))else tF0 x
def updB(s:Bool)(F:Dj)(i:Nat)(v:Dh):Nat->Dh:=bif s then updF F i v else F
theorem qfg(s:Bool)(F:Dj)(i j:Nat)(v:Dh)(h:j≠i):updB s F i v j=F j:=by cases s<;>simp[updB,updF,h]
theorem q1f(s:Bool)(F:Dj)(i j:Nat)(u v:Dh)(h:j≠i):updF (updB s F j u) i v=updB s (updF F i v) j u:=by
 funext x
 cases s<;>simp only[updB,cond_true,cond_false,updF]
 grind
def tFm(s:Bool)(A:oA)(c:Nat)(l:LB)(V:Dj)(k:Nat):Nat->Dh:=
 updB s (updF (updF (updF (tFk A c l V k) (8*k+2) (ii (tvAt l k))) (8*k+1) (ii (tw l k))) (8*k+3) (ii ((tvAt l k:Int)+1))) (8*k+4) (ii (tEnd l k))
def tFn(s t:Bool)(A:oA)(c:Nat)(l:LB)(V:Dj)(k:Nat):Nat->Dh:=updB t (updB s (tFm true A c l V k) (8*k+5) (tPV A c l k)) (8*k+6) (tSV A c l k)
section
variable (s t:Bool) (A:oA) (c:Nat) (l:LB) (V:Dj) (k j:Nat)
theorem q4v:tFm s A c l V k (8*j)=ii (vNum l j):=by
 unfold tFm;rw[qfg _ _ _ _ _ Oo,q6 _ _ _ _ Oo,q6 _ _ _ _ Oo,q6 _ _ _ _ Oo,tFk,Af (.inl Oo),show 8*j/8=j by omega,show 8*j%8=0 by omega];rfl
theorem qadd:tFm s A c l V k (8*k+1)=ii (tw l k):=by rw[tFm,qfg _ _ _ _ _ Oo,q6 _ _ _ _ Oo,qav]
theorem qack:tFm s A c l V k (8*k+3)=ii ((tvAt l k:Int)+1):=by rw[tFm,qfg _ _ _ _ _ Oo,qav]
theorem qoy(h:j≠8*k+5)(H:j≠8*k+6):tFn s t A c l V k j=tFm true A c l V k j:=by rw[tFn,qfg _ _ _ _ _ H,qfg _ _ _ _ _ h]
theorem q90:tFn s t A c l V k (8*j)=ii (vNum l j):=by rw[qoy _ _ _ _ _ _ _ _ Oo Oo,q4v]
theorem qade:tFn s t A c l V k (8*k+3)=ii ((tvAt l k:Int)+1):=by rw[qoy _ _ _ _ _ _ _ _ Oo Oo,qack]
theorem qacl:tFn s t A c l V k (8*k+4)=ii (tEnd l k):=by rw[qoy _ _ _ _ _ _ _ _ Oo Oo];exact qav _ _ _
theorem qadf:updF (tFn false t A c l V k) (8*k+5) (tPV A c l k)=tFn true t A c l V k:=q1f _ _ _ _ _ _ Oo
theorem qtw(v:Dh)(x:Nat):updF (tFn true true A c l V k) (8*k+7) v x=tFk A c l (updF V k v) (k+1) x:=by
 by_cases e:x/8=k
 ·rw[tFk,Af (.inr Oo),e,qav];obtain h|h|h|h|h|h|h|h:x=8*k\/x=8*k+1\/x=8*k+2\/x=8*k+3\/x=8*k+4\/x=8*k+5\/x=8*k+6\/x=8*k+7:=by omega
  ·subst h;rw[q6 _ _ _ _ Oo,q90,show 8*k%8=0 by omega];rfl
  all_goals
   subst h;simp[updF,updB,tFm,tFn,lvV]
 ·rw[q6 _ _ _ _ Oo,qoy _ _ _ _ _ _ _ _ Oo Oo,tFm,qfg _ _ _ _ _ Oo,q6 _ _ _ _ Oo,q6 _ _ _ _ Oo,q6 _ _ _ _ Oo,tFk,tFk,q6 _ _ _ _ e]
  by_cases h:x%8=0\/x/8<k
  ·rw[Af h,Af Oo]
  ·rw[Ab h,Ab Oo]
theorem q4u:fnA 32 (tFn true true A c l V k)=fnA 32 (tFk A c l (updF V k (.pointer none)) (k+1)):=qdw λx _=>by
 rw[<-qtw]
 by_cases e:x=8*k+7
 ·subst e;rw[qav,qoy _ _ _ _ _ _ _ _ Oo Oo,tFm,qfg _ _ _ _ _ Oo,q6 _ _ _ _ Oo,q6 _ _ _ _ Oo,q6 _ _ _ _ Oo,tFk,Ab Oo,tF0,Ab Oo,Ab Oo]
 ·rw[q6 _ _ _ _ e]
end
theorem up{p:Nat->Prop}(h:∀j,j<k->p j)(H:p k):∀j,j<k+1->p j:=λj O=>by
 rcases Nat.lt_succ_iff_lt_or_eq.1 O with U|rfl
 ·exact h j U
 ·exact H
theorem qtz(h:(tvF l k).2=0):tvAt l k<l.length/\tw l k<=23/\tvAt l (k+1)<=l.length:=by
 rw[tvF]at h
 split at h
 ·cases h
 split at h
 ·cases h
 split at h
 ·cases h
 ·omega
theorem q6q(h:(tcF l k).2=0):vNum l k<=1048576:=by
 rw[tcF]at h
 split at h
 ·rename_i H;exact absurd h H
 ·rename_i H
  unfold numE at H
  split at H
  ·rename_i O;exact absurd O H
  ·split at H
   ·exact absurd Js H
   ·omega
theorem q42(h:(tcF l k).2=0)(O:0<k):vNum l (k-1)<=vNum l k:=by
 rw[tcF]at h
 split at h
 ·rename_i H;exact absurd h H
 ·split at h
  ·cases h
  ·omega
theorem qg2{F:Dj}{v:Dh}{K:Dh->Prop}(k c:Nat)(h:Mem w0 w ((b,.cells (fnA 32 F) 247)::L))(H:F (8*k+c)=v)(O:K v)(e:off=8*k+c:=by rw[lvSz];dsimp only;omega)(U:8*k+c<32:=by omega):LoadV w b off K:=
 .fn h (i:=0) rfl _ e U H O
theorem qp8{F:Dj}{v:Dh}{K:Dk}(k c:Nat)(h:Mem w0 w ((b,.cells (fnA 32 F) 247)::L))(H:∀w',Mem w0 w' ((b,.cells (fnA 32 (updF F (8*k+c) v)) 247)::L)->K w')(e:off=8*k+c:=by rw[lvSz];dsimp only;omega)(O:8*k+c<32:=by omega)(U:qb5 v=true:=by rfl):StoreV w b off v K:=
 .fn h (i:=0) rfl _ e O U H
theorem qadc(h:(tE l).2=0):(∀k,k<4->(tcF l k).2=0)/\(∀k,k<4->(tvF l k).2=0)/\tvAt l 4=l.length:=by
 have O:(errF (tcF l) 4).2=0:=by grind [tE]
 have U:(errF (tvF l) 4).2=0:=by grind [tE]
 have H:=qb8 U;have:=(qtz (H 3 Oo)).2.2;exact⟨qb8 O,H,by grind [tE]⟩
theorem q47(l:LB)(A:oA)(c:Nat)(w:Dc)(hS:SlAt encB 1 w A l)(hc:l.length<=c)(hl:l.length<=140737488355328)(hE:(tE l).2=0)(hV:∀k,0<k->k<4->tVec l k=true):
  Gv Do 96 [.slice A l.length c] w λv w'=>(∃b,v=.tuple #[pp b,.nilIface]/\w.heap.size<=b/\TreeAt w' b l)/\Ext w w':=by
 obtain⟨hz,hv,av⟩:=qadc hE;have ae:BS w (.slice A l.length c) l:=⟨A,c,rfl,hc,hS⟩
 refine ze Tryz.func96 Tryz.ntmps96 ?_;refine znm (Mem.nil w) ?_;intro tb w1 H;have H:Mem w w1 [(tb,.cells (fnA 32 tF0) 247)]:=H;(conv=>whnf);refine zcv (qdj _ l w1 (ae.ext H.ext)) ?_;rintro v w2 ⟨cb,rfl,aw,af,ax⟩;have H:Mem w w2 [(cb,curO 367 (.slice A l.length c) 0 0),(tb,.cells (fnA 32 tF0) 247)]:=H.fresh ax aw af;(conv=>whnf);refine zcv (qv6 l _ tb cb tF0 w w2 H ae hl hz) ?_;rintro v w3 ⟨rfl,F1,ag,aa,H⟩;refine zu ?_;refine zcv (qir cb _ (vAt l 4) 0 w3 (H.get mh)) ?_;rintro v w4 ⟨rfl,rfl⟩;replace H:=H.sub (Bm ..);rw[show fnA 32 F1=fnA 32 (tFk A c l (λ_=>.pointer none) 0)from qdw λx hx=>by
  by_cases e:x%8=0
  ·rw[tFk,Af (.inl e),e,show x=8*(x/8)by omega,ag _ Oo,show 8*(x/8)/8=x/8 by omega];rfl
  ·rw[tFk,Ab Oo,aa _ e]]at H
 clear ag aa;rw[show vAt l 4=tvAt l 0 from rfl];(conv=>whnf);refine qm (λx:Nat×Dj×Dl=>[(0,.slice A l.length c),(2,.pointer none),(3,.nilIface),(4,pp tb),(7,ii (tvAt l x.1)),(24,ii x.1)])
  (λx w'=>x.1<=4/\(∀j,j<x.1->VecM x.2.2 (x.2.1 j) (tSV A c l j) l j)/\Mem w w' ((tb,.cells (fnA 32 (tFk A c l x.2.1 x.1)) 247)::x.2.2)) (λx=>4-x.1) (0,λ_=>.pointer none,[])
  fq ⟨by simp,λj h=>by simp at h,H⟩ ?_
 clear H af;rintro⟨k,F,L⟩ w5 bb ⟨k1,hL,H⟩;dsimp only at k1 hL H|-;have hn:=λj Z=>q6q (hz j Z)
 have bc:=λh:k<4=>qtz (hv k h)
 have bd:4<=k->tvAt l k=l.length:=λh=>by rw[show k=4 by omega,av]
 (conv=>whnf);refine zC (λ_=>zu ?_) (λ_=>zu ?_)
 ·refine ElemV.bs (hS.ext H.ext) rfl (tvAt l k) rfl Oo ?_;intro eb eo ah;have ay:tvAt l k<l.length:=by omega
  have hw:l[tvAt l k].toNat=tw l k:=by rw[tw,Am,zge ay];rfl
  have be:tw l k<256:=by rw[<-hw];exact q9 _
  rw[hw]at ah;(conv=>whnf);refine LoadV.of ah (zu ?_);refine qp8 k 2 H λw6 H=>?_;(conv=>whnf);refine qp8 k 1 H λw7 H=>?_;(conv=>whnf);refine qg2 k 1 H (qav _ _ _) (zu ?_);have ai:tw l k<=23:=by omega
  have az:=hn k Oo;have aj:vNum l k*tw l k<=1048576*23:=Bz az ai;obtain⟨f,ef⟩:∃f,f=vNum l k*tw l k:=⟨_,rfl⟩
  have bf:((vNum l k:Nat):Int)*((tw l k:Nat):Int)=(f:Int):=by rw[ef,C5]
  rw[<-ef]at aj;have a7:tEnd l k=tvAt l k+1+(f+7)/8:=by rw[ef];rfl
  have a0:(((tvAt l k:Nat):Int)+1+(((vNum l k:Nat):Int)*((tw l k:Nat):Int)+7)/8)=((tEnd l k:Nat):Int):=by omega
  refine qp8 k 3 H λw8 H=>?_;(conv=>whnf);refine DrawV.inv (λS w'=>Mem w w' ((tb,.cells (fnA 32 (tFm (S 19) A c l F k)) 247)::L)) rfl Jk H.drew ?_;clear H;(conv=>whnf);(iterate 4 (refine zi ?_));refine StepI.of (ii ((tvAt l k:Int)+1)) (λS wd W hp O=>zw ?_) (zw ?_)
  ·refine qg2 k 3 O (qack ..) (zw ?_);exact⟨rfl,O⟩
  (iterate 3 (refine zi ?_));refine StepI.of (ii (vNum l k)) (λS wd W hp O=>zw ?_) (zw ?_)
  ·refine qg2 k 0 O (q4v ..) (zw ?_);exact⟨rfl,O⟩
  (iterate 3 (refine zi ?_));refine StepI.of (ii (tw l k)) (λS wd W hp O=>zw ?_) (zw ?_)
  ·refine qg2 k 1 O (qadd ..) (zw ?_);exact⟨rfl,O⟩
  (iterate 6 (refine zi ?_));refine StepI.of undef (λS wd W hp O=>?_) (zw ?_)
  ·dsimp only at O;rw[W]at O;(conv=>whnf);rw[a0];refine qp8 k 4 O λwx hx=>?_;(conv=>whnf);exact⟨rfl,hx⟩
  intro a1 H;dsimp only at H;(conv=>whnf);refine qg2 k 4 H (qav _ _ _) ?_;have ak:=qgg l k;refine if ac:k=0 then ?pp else ?pn
  case' pp=>
   rw[Af ac]at ak;refine zu ?_
  case' pn=>
   rw[Ab ac]at ak;refine zu ?_;have al:=q42 (hz k Oo) Oo;have a8:=hn (k-1) Oo;have bg:=qrh (vNum l k) (vNum l (k-1)) Oo al;refine DrawV.free Jk Jk (zw ?_);(iterate 4 (refine zd ?_));apply zsd
   ·intro wd hd;(conv=>whnf);refine qg2 k 0 (Mem.call (Mem.drew H) hd) (q4v ..) (zw ?_);exact xq
   (conv=>whnf);(iterate 5 (refine zd ?_));apply zsd
   ·intro wd hd;(conv=>whnf);refine IdxV.at_ (k-1) Oo Oo (zw ?_);exact xq
   (conv=>whnf);refine zd ?_;apply zsd
   ·intro wd hd;(conv=>whnf);refine qg2 (k-1) 0 (Mem.call (Mem.drew H) hd) (q4v ..) (zw ?_);exact xq
   (conv=>whnf);apply zsd
   ·intro wd hd;(conv=>whnf);refine zcv (q0l (vNum l k) (vNum l (k-1)) wd Oo al) ?_;rintro v w9 ⟨rfl,h9⟩;exact⟨h9,rfl⟩
   (conv=>whnf);refine zd ?_;refine zd ?_;intro a1 ab
   (repeat(intro _ _;(conv=>whnf)))
   (conv=>whnf);replace H:=H.drew.call ab;clear ab;rw[show(((tEnd l k:Nat):Int)+((qa7 (vNum l k) (vNum l (k-1)):Nat):Int))=((tvAt l (k+1):Nat):Int)by omega];refine zv ?_
  all_goals
   have a9:tvAt l k+1<=tEnd l k:=by omega
   have ba:tEnd l k<=tvAt l (k+1):=by omega
   refine DrawV.inv (λS w'=>Mem w w' ((tb,.cells (fnA 32 (tFn (S 21) (S 24) A c l F k)) 247)::L)) rfl Jk H.drew ?_;clear H;(conv=>whnf);(iterate 6 (refine zi ?_));refine StepI.of (ii ((tvAt l k:Int)+1)) (λS wd W hp O=>zw ?_) (zw ?_)
   ·refine qg2 k 3 O (qade ..) (zw ?_);exact⟨rfl,O⟩
   (iterate 3 (refine zi ?_));refine StepI.of (ii (tEnd l k)) (λS wd W hp O=>zw ?_) (zw ?_)
   ·refine qg2 k 4 O (qacl ..) (zw ?_);exact⟨rfl,O⟩
   refine StepI.of (tPV A c l k) (λS wd W hp O=>zw ?_) (zw ?_)
   ·refine SliceV.to (tvAt l k+1) (tEnd l k) c (by show(_:Int)=_;omega) rfl rfl Oo Oo znr (λh=>by cases h) (zw ?_);exact⟨rfl,O⟩
   (iterate 4 (refine zi ?_));refine StepI.of (ii (tEnd l k)) (λS wd W hp O=>zw ?_) (zw ?_)
   ·refine qg2 k 4 O (qacl ..) (zw ?_);exact⟨rfl,O⟩
   refine zi ?_;refine StepI.of (tSV A c l k) (λS wd W hp O=>zw ?_) (zw ?_)
   ·refine SliceV.to (tEnd l k) (tvAt l (k+1)) c rfl (by show(_:Int)=_;omega) rfl Oo Oo znr (λh=>by cases h) (zw ?_);exact⟨rfl,O⟩
   refine zi ?_;refine zi ?_;refine StepI.of undef (λS wd W hp O=>?_) (zw ?_)
   ·dsimp only at O;rw[W]at O;(conv=>whnf);show StoreV _ _ _ (tPV A c l k) _;refine qp8 k 5 O λwx hx=>?_;rw[qadf]at hx;(conv=>whnf);exact⟨rfl,hx⟩
   refine zi ?_;refine zi ?_;refine StepI.of undef (λS wd W hp O=>?_) (zw ?_)
   ·dsimp only at O;rw[W]at O;(conv=>whnf);refine qp8 k 6 O λwx hx=>?_;(conv=>whnf);exact⟨rfl,hx⟩
   intro a2 H;dsimp only at H;refine zu ?_
  case' pp=>have nv:k=0\/tVec l k=false:=.inl ac
  case' pn=>
   have U:(qd l k).length=tvAt l (k+1)-tEnd l k:=by rw[qd,A6,zld];omega
   have ad:SlAt encB 1 w (if c=tEnd l k then A else A.map (·.add (tEnd l k*1))) (qd l k):=hS.cut (m:=c) Oo Oo Oo rfl;refine qg2 k 6 (v:=tSV A c l k) H (qav _ _ _) (zw ?_);have am:=hV k Oo Oo;have an:=am;simp only[tVec,AB,decide_eq_true_eq]at an;obtain⟨⟨h1,e1⟩,e2⟩:=an;have ao:=q5q (qd l k) _ (c-tEnd l k) a2 (ad.ext H.ext) (by rw[U];omega) (by rw[U];omega) h1;rw[U]at ao;refine zcv (ao) ?_;rintro r a3 ⟨⟨vb,rfl,a4,a5⟩,aq⟩;replace H:Mem w a3 ((tb,.cells (fnA 32 (tFn true true A c l F k)) 247)::(vb,vecO 381 (tSV A c l k) (vN (qd l k)) (vM (qd l k)))::L):=(H.fresh aq a4 a5).perm (List.Perm.swap ..);(conv=>whnf);refine zy ?_;replace H:=H.drew;refine zv ?_;refine⟨ii (vN (qd l k)),q5m _ _ _ _ _ (H.get (zmc mh)),?_⟩;refine zu ?_;refine qg2 k 0 H (q90 ..) (zu ?_);refine⟨ii (vM (qd l k)),q1q _ _ _ _ _ (H.get (zmc mh)),?_⟩;refine zu ?_;refine IdxV.at_ (k-1) Oo Oo (zu ?_);refine qg2 (k-1) 0 H (q90 ..) (zu ?_);refine qp8 k 7 (v:=pp vb) H λbh H=>?_
   rw[e1,e2,qdw λx _=>qtw A c l F k _ x]at H;refine zu ?_;exact⟨(k+1,updF F k _,_::L),⟨rfl,rfl,rfl,rfl,by show _=ii ((tvAt l (k+1):Nat):Int);exact Ad (Value.int .i64) Oo,rfl,trivial⟩,⟨by simp only;omega,up (λj Z=>by dsimp only;rw[q6 _ _ _ _ Oo];exact(hL j Z).more) (by dsimp only;rw[qav];exact .inr ⟨by omega,am,vb,rfl,AD ..⟩),H⟩,by simp only;omega⟩
  all_goals
   rw[q4u]at H;exact⟨(k+1,updF F k (.pointer none),L),⟨rfl,rfl,rfl,rfl,by show _=ii ((tvAt l (k+1):Nat):Int);exact Ad (Value.int .i64) Oo,rfl,trivial⟩,⟨by simp only;omega,up (λj Z=>by dsimp only;rw[q6 _ _ _ _ Oo];exact hL j Z) (by dsimp only;rw[qav];exact .inl ⟨nv,rfl⟩),H⟩,by simp only;omega⟩
 ·obtain rfl:k=4:=by omega
  obtain⟨o1,o2⟩:=H.own _ mh;refine⟨⟨tb,rfl,o1,⟨λj Z=>?_,λj Z=>q6q (hz j Z),λj Z=>(qtz (hv j Z)).2.1⟩⟩,H.ext⟩;obtain⟨z1,z2,z3⟩:=qtz (hv j Z);have t1:tvAt l j+1<=tEnd l j:=by show _<=tvAt l j+1+_;omega
  have t2:tEnd l j<=tvAt l (j+1):=by rw[qgg];omega
  have ar:(qg l j).length=tEnd l j-(tvAt l j+1):=by rw[qg,A6,zld];omega
  have U:(qd l j).length=tvAt l (j+1)-tEnd l j:=by rw[qd,A6,zld];omega
  have a6:SlAt encB 1 w (if c=tvAt l j+1 then A else A.map (·.add ((tvAt l j+1)*1))) (qg l j):=hS.cut (m:=c) Oo Oo Oo rfl;have ad:SlAt encB 1 w (if c=tEnd l j then A else A.map (·.add (tEnd l j*1))) (qd l j):=hS.cut (m:=c) Oo Oo Oo rfl;refine⟨⟨_,c-(tvAt l j+1),_,c-tEnd l j,F j,?_,a6.ext H.ext,ad.ext H.ext,by rw[U];omega,?_⟩⟩
  ·intro i v au;have hi8:i<8:=(Ae.1 au).1;rw[qa o2,qa8 32 _ _ Oo,tFk,Af (.inr Oo),show(8*j+i)/8=j by omega,show(8*j+i)%8=i by omega,<-au,ar,U]
   rcases i with _|_|_|_|_|_|_|_|i
   all_goals first|rfl|omega
  ·rw[U]
   rcases hL j Z with h|⟨h1,h2,vb,h3,h4⟩
   ·exact .inl h
   ·exact .inr ⟨h1,h2,vb,h3,H.get (zmc h4)⟩
end Go.Proofs.YtccmcfpmknpccaaGreatDoor
