/- Part 4 of 11. -/
import Derived.Test.YtacnkdagblbgfaaGreatDoorMS3
import Derived.Lib.BitFns
namespace Go.Proofs.YtacnkdagblbgfaaGreatDoor
set_option maxHeartbeats 8000000
open Go.RowKit V
set_option maxHeartbeats 8000000
set_option maxRecDepth 100000
variable {P:E4} {w w' w0:Ez} {b base c d g i id j k m most off:Nat} {cur:EH} {vs xs:EE} {ahead l:LB} {A B:oA} {e ty:E6} {L:ED} {mx:Option E8} {ops:Array Oper} {listed:Array Bool} {vals ρ ρa:EB} {a:Act} {o:Oper} {K:E9} {K2:Act->EC} {Q':Exit->Act->EC} {z:E8}
namespace V
theorem StoreA.same{t:E6}{K:EC}(hg:w.heap[b]?=some (.cells cur t))(hv:vs=cur.toList)(h1:∀v∈vs,v.oneCell'=true)(hk:∀w',Ext w w'->K w'):StoreA P w b 0 vs K:=by
 subst hv;have hr:=run_storeCells_at P b 0 t cur.toList 0 cur w hg Js h1;have ec:(cur.toList.take (0+0)++cur.toList++cur.toList.drop (0+0+cur.toList.length)).toArray=cur:=by
  rw[Bz,Br,Be Js,AI]
 rw[ec]at hr;refine⟨_,hr,hk _ ⟨rfl,rfl,rfl,by simp[World.setRow],fun k _=>?_⟩⟩
 by_cases e:k=b
 ·subst e;rw[qcl hg,hg]
 ·exact qw e
theorem BS.rest{a:Nat}(hA:SlAt encB 1 w (some ⟨g,off,none⟩) l)(hc:l.length<=c)(ha:a<l.length):BS w (.slice (some ⟨g,off+a,none⟩) (l.length-a) (c-a)) (l.drop a):=by
 refine⟨_,c-a,by rw[zld],by rw[zld];omega,?_⟩;have:=hA.cut (A':=some ⟨g,off+a,none⟩) (lo:=a) (hi:=l.length) (m:=c) Oo znr hc (by rw[Aa Oo,Bk,B4,qan])
 rwa[AF Js]at this
theorem SliceV.rest{n:Nat}{lo:Option E8}{K:E8->Prop}(a:Nat)(h1:bnd lo 0 a)(hn:n<=c)(ha:a<n)(hk:K (.slice (some ⟨g,off+a,none⟩) (n-a) (c-a))):SliceV 1 (some ⟨g,off,none⟩) n c lo none none K:=by
 refine⟨a,n,c,h1,rfl,rfl,by omega,hn,Aq _,fun h=>by simp at h,fun A' e=>?_⟩;rw[Aa Oo,Bk,B4,qan]at e;subst e;exact hk
structure CurAt(wd w:Ez)(v:E8)(o:Obj):Prop where
 h:∃b,v=pp b/\wd.heap.size<=b/\w.heap[b]?=some o
structure Two(wd:Ez)(o1 o2:Obj)(F:EC)(s2 s5 s6 s12 s13 s17:Bool)(v5 v12:E8)(w:Ez):Prop where
 a:s17=false->Ext wd w/\(s5=true->s6=false->CurAt wd w v5 o1)/\(s12=true->s13=false->CurAt wd w v12 o2)
 d:s6=true->s5=true
 e:s12=true->s6=true
 f:s17=true->F w/\s2=true/\s5=true/\s6=true/\s12=true/\s13=true
section
variable {wd w w':Ez} {o1 o2:Obj} {F:EC} {s2 s5 s6 s12 s13 s17:Bool} {v5 v12 v:E8}
theorem Two.start:Two wd o1 o2 F false false false false false false v5 v12 wd:=⟨fun _=>⟨xr,fun h=>(by cases h),fun h=>(by cases h)⟩,fun h=>(by cases h),fun h=>(by cases h),fun h=>(by cases h)⟩
theorem Two.read1(h:Two wd o1 o2 F s2 false s6 s12 s13 s17 v5 v12 w)(he:Ext w w')(hv:∃b,v=pp b/\w.heap.size<=b/\w'.heap[b]?=some o1):Two wd o1 o2 F s2 true s6 s12 s13 s17 v v12 w':=by
 have h6:s6=false:=by
  cases h':s6
  ·rfl
  ·have:=h.d h';cases this
 have h17:s17=false:=by
  cases h':s17
  ·rfl
  ·have:=(h.f h').2.2.1;cases this
 obtain⟨a1,a2,a3⟩:=h.a h17;obtain⟨b,rfl,hb,hc⟩:=hv;have h12:s12=false:=by
  cases h':s12
  ·rfl
  ·have:=h.e h';rw[h6]at this;cases this
 exact⟨fun _=>⟨a1.trans he,fun _ _=>⟨b,rfl,AU a1.size hb,hc⟩,fun h=>(by rw[h12]at h;cases h)⟩,fun _=>rfl,h.e,fun h=>by rw[h17]at h;cases h⟩
theorem Two.cur1(h:Two wd o1 o2 F s2 s5 false s12 s13 s17 v5 v12 w)(h5:s5=true):Ext wd w/\CurAt wd w v5 o1:=by
 have h17:s17=false:=by
  cases h':s17
  ·rfl
  ·have:=(h.f h').2.2.2.1;cases this
 obtain⟨a1,a2,a3⟩:=h.a h17;exact⟨a1,a2 h5 rfl⟩
theorem Two.fix1{u5 u12:E8}(h:Two wd o1 o2 F s2 s5 false s12 s13 s17 v5 v12 w)(h5:s5=true)(he:Ext wd w'):Two wd o1 o2 F s2 s5 true s12 s13 s17 u5 u12 w':=by
 have h17:s17=false:=by
  cases h':s17
  ·rfl
  ·have:=(h.f h').2.2.2.1;cases this
 have h12:s12=false:=by
  cases h':s12
  ·rfl
  ·have:=h.e h';cases this
 exact⟨fun _=>⟨he,fun _ h=>(by cases h),fun h=>(by rw[h12]at h;cases h)⟩,fun _=>h5,fun _=>rfl,fun h=>(by rw[h17]at h;cases h)⟩
theorem Two.ext2(h:Two wd o1 o2 F s2 s5 s6 false s13 s17 v5 v12 w):Ext wd w:=by
 have h17:s17=false:=by
  cases h':s17
  ·rfl
  ·have:=(h.f h').2.2.2.2.1;cases this
 exact(h.a h17).1
theorem Two.ext1(h:Two wd o1 o2 F s2 false s6 s12 s13 s17 v5 v12 w):Ext wd w:=by
 have h17:s17=false:=by
  cases h':s17
  ·rfl
  ·have:=(h.f h').2.2.1;cases this
 exact(h.a h17).1
theorem Two.ext0(h:Two wd o1 o2 F false s5 s6 s12 s13 s17 v5 v12 w):Ext wd w:=by
 have h17:s17=false:=by
  cases h':s17
  ·rfl
  ·have:=(h.f h').2.1;cases this
 exact(h.a h17).1
theorem Two.load(h:Two wd o1 o2 F false s5 s6 s12 s13 s17 v5 v12 w):Two wd o1 o2 F true s5 s6 s12 s13 s17 v5 v12 w:=by
 have h17:s17=false:=by
  cases h':s17
  ·rfl
  ·have:=(h.f h').2.1;cases this
 exact⟨h.a,h.d,h.e,fun h=>by rw[h17]at h;cases h⟩
theorem Two.read2(h:Two wd o1 o2 F s2 s5 s6 false s13 s17 v5 v12 w)(h6:s6=true)(he:Ext w w')(hv:∃b,v=pp b/\w.heap.size<=b/\w'.heap[b]?=some o2):Two wd o1 o2 F s2 s5 s6 true s13 s17 v5 v w':=by
 have h17:s17=false:=by
  cases h':s17
  ·rfl
  ·have:=(h.f h').2.2.2.2.1;cases this
 obtain⟨a1,a2,a3⟩:=h.a h17;obtain⟨b,rfl,hb,hc⟩:=hv;exact⟨fun _=>⟨a1.trans he,fun _ h=>(by rw[h6]at h;cases h),fun _ _=>⟨b,rfl,AU a1.size hb,hc⟩⟩,h.d,fun _=>h6,fun h=>by rw[h17]at h;cases h⟩
theorem Two.cur2(h:Two wd o1 o2 F s2 s5 s6 s12 false s17 v5 v12 w)(h12:s12=true):Ext wd w/\CurAt wd w v12 o2:=by
 have h17:s17=false:=by
  cases h':s17
  ·rfl
  ·have:=(h.f h').2.2.2.2.2;cases this
 obtain⟨a1,a2,a3⟩:=h.a h17;exact⟨a1,a3 h12 rfl⟩
theorem Two.fix2(h:Two wd o1 o2 F s2 s5 s6 s12 false s17 v5 v12 w)(h12:s12=true)(he:Ext wd w'){u5 u12:E8}:Two wd o1 o2 F s2 s5 s6 s12 true s17 u5 u12 w':=by
 have h17:s17=false:=by
  cases h':s17
  ·rfl
  ·have:=(h.f h').2.2.2.2.2;cases this
 exact⟨fun _=>⟨he,fun _ h6=>(by rw[h.e h12]at h6;cases h6),fun _ h=>(by cases h)⟩,h.d,h.e,fun h=>by rw[h17]at h;cases h⟩
end
end V
def hN(l:LB)(k:Nat):Nat:=leN ((l.drop (4*k)).take 4)
def qas(l:LB):Nat×Nat:=
 if l.length<28 then(l.length,10)else if hN l 0≠1095914324 then(0,190)else if hN l 6≠(crcL (l.take 24)).toNat then(24,30)else if hN l 1≠1 then(4,191)
 else if 67108864<hN l 4+hN l 5+36 then(0,2)else if l.length<hN l 4+hN l 5+36 then(l.length,10)else if hN l 4+hN l 5+36<l.length then(hN l 4+hN l 5+36,13)else(0,0)
def zF:EE:=[ii 0,ii 0,ii 0,ii 0,.slice none 0 0,.slice none 0 0,ii 0,ii 0,.int .u32 0,.int .u32 0]
def okF(l:LB)(A B:oA):EE:=[ii (hN l 2),ii (hN l 3),ii (hN l 4),ii (hN l 5),.slice A (hN l 4) (hN l 4),.slice B (hN l 5) (hN l 5),ii 28,ii (32+hN l 4:Nat),
 .int .u32 (leN ((l.drop (28+hN l 4)).take 4)),.int .u32 (leN ((l.drop (32+hN l 4+hN l 5)).take 4))]
def FrR(l:LB)(v:E8)(w:Ez):Prop:=
 ((qas l).2≠0/\∃ev,v=.tuple #[.agg zF.toArray,ev]/\ErrAt w ev (qas l).1 (qas l).2)\/
 ((qas l).2=0/\∃A B,v=.tuple #[.agg (okF l A B).toArray,.nilIface]/\SlAt encB 1 w A ((l.drop 28).take (hN l 4))/\SlAt encB 1 w B ((l.drop (32+hN l 4)).take (hN l 5)))
theorem qac8(l:LB)(k:Nat):hN l k<4294967296:=by
 have:=q1l ((l.drop (4*k)).take 4);have h2:((l.drop (4*k)).take 4).length<=4:=by simp;omega
 have h3:256 ^ ((l.drop (4*k)).take 4).length<=256 ^ 4:=Bs Od h2;have h4:(256:Nat) ^ 4=4294967296:=by decide
 unfold hN;omega
def nsL(l:LB)(i:Nat):EE:=(List.range 7).map fun k=>Value.int .u64 ((if k<i then hN l k else 0:Nat):Int)
theorem qaaw(l:LB)(i:Nat)(hi:i<7):(nsL l i).toArray.setIfInBounds i (.int .u64 (hN l i))=(nsL l (i+1)).toArray:=by
 rw[<-Bf];simp only[Co];apply BW;intro j;rw[BX];simp only[nsL,AC,List.length_range,Ao]
 by_cases e:i=j
 ·subst e;rw[Ad rfl,Ad hi,Bt hi];simp
 ·rw[Aa e]
  by_cases hj:j<7
  ·rw[Bt hj];simp only[B4];have:(j<i+1)↔(j<i):=by omega
   simp only[this]
  ·rw[Au Ys];rfl
theorem qxq(l:LB)(A:oA)(c:Nat)(w:Ez)(hS:SlAt encB 1 w A l)(hc:l.length<=c)(hl:l.length<=140737488355328)(hT:CellsAt w 1 0 qjy):
  Gv EG 86 [.slice A l.length c] w fun v w'=>FrR l v w'/\Ext w w':=by
 refine ze Tryz.func86 Tryz.ntmps86 ?_;refine znm (Mem.nil w) fun r w1 hm=>zw ?_;refine zC (fun _=>zw ?_) (fun _=>zw ?_)
 ·refine DrawV.free Jk Jk (zw ?_);apply zsd
  ·intro wd hd;(conv=>whnf);refine LoadA.mem (Mem.call (Mem.drew hm) hd) (i:=0) rfl rfl (zw ?_);exact xq
  (conv=>whnf);refine zd ?_;refine zd ?_;apply StepD.of (fun v w=>ErrAt w v (l.length) 10) (fun _ _ _ h he=>h.ext he)
  ·intro wd hd;(conv=>whnf);refine zcv (qgv (l.length) 10 wd) ?_;rintro v w9 ⟨h9,he9⟩;exact⟨he9,h9⟩
  (conv=>whnf);apply zsd
  ·intro wd hd;(conv=>whnf);rintro ev hev;(conv=>whnf);refine StoreA.same ((Mem.call (Mem.drew hm) hd).get mh) rfl Od ?_;intro w9 he9;exact⟨he9,rfl⟩
  (conv=>whnf);apply StepD.of (fun v w=>ErrAt w v (l.length) 10) (fun _ _ _ h he=>h.ext he)
  ·intro wd hd;(conv=>whnf);rintro ev hev;(conv=>whnf);rintro ev2 hev2;(conv=>whnf);obtain⟨eb,rfl,hec⟩:=hev2;(conv=>whnf);exact⟨xr,eb,rfl,hec⟩
  (conv=>whnf);intro w9 he9;(conv=>whnf);rintro ev ⟨eb,rfl,hec⟩;(conv=>whnf);rintro ev2 hev2;(conv=>whnf);have hm9:=(hm.drew.call he9)
  refine qh (R:=fun v w'=>FrR l v w'/\Ext w w') (zw ?_);refine zl hm9 0 ?_;have hR:qas l=(l.length,10):=by rw[qas,Ad Oo]
  refine⟨.inl ⟨by rw[hR];simp,_,rfl,?_⟩,hm9.ext⟩;rw[hR];exact⟨eb,rfl,hec⟩
 have h28:28<=l.length:=by omega
 have hlt:∀k,hN l k<4294967296:=fun k=>qac8 l k
 refine znm hm fun nb w2 hm=>zw ?_;have hv:BS w2 (.slice A l.length c) l:=⟨A,c,rfl,hc,hS.ext hm.ext⟩
 refine zcv (qem _ l w2 hv) ?_;rintro v w3 ⟨cb,rfl,hcb,hco,he3⟩;have hm:=hm.fresh he3 hcb hco;(conv=>whnf);refine qj (fun i:Nat=>[(0,.slice A l.length c),(2,pp r),(3,.nilIface),(4,pp nb),(5,pp cb),(17,ii i)])
  (fun i w4=>i<=7/\Mem w w4 [(cb,curO 288 (.slice A l.length c) (4*i) 0),(nb,.cells (nsL l i).toArray 218),(r,.cells zF.toArray 164)]) (fun i=>7-i) 0 fq ⟨by omega,hm⟩ ?_
 clear hm;rintro i w4 ρ' ⟨i1,hm⟩;(conv=>whnf);refine zC (fun _=>zw ?_) (fun _=>zw ?_)
 ·have hv:BS w4 (.slice A l.length c) l:=⟨A,c,rfl,hc,hS.ext hm.ext⟩
  refine zcv (qiq cb _ (4*i) l w4 (hm.get mh) hv Oo hl) ?_;rintro v w5 ⟨rfl,hu⟩;have hm:Mem w w5 [(cb,curO 288 (.slice A l.length c) (4*(i+1)) 0),(nb,.cells (nsL l i).toArray 218),(r,.cells zF.toArray 164)]:=hm.upd (i:=0) rfl hu;(conv=>whnf);refine IdxV.nat Oo (zw ?_);refine StoreV.mem hm (i:=1) rfl (by rw[show tsz EG 125=1 from by kernel_rfl];simp[nsL];omega) rfl fun w6 hm=>zu ?_;refine⟨i+1,fq,⟨by omega,?_⟩,by omega⟩;have e:=qaaw l i Oo;rw[<-e];have e2:0+i*tsz EG 125=i:=by rw[show tsz EG 125=1 from by kernel_rfl];omega
  rw[e2]at hm;exact hm
 have hi7:i=7:=by omega
 subst hi7;have hm:Mem w w4 [(cb,curO 288 (.slice A l.length c) 28 0),(nb,.cells #[.int .u64 (hN l 0),.int .u64 (hN l 1),.int .u64 (hN l 2),.int .u64 (hN l 3),.int .u64 (hN l 4),.int .u64 (hN l 5),.int .u64 (hN l 6)] 218),(r,.cells zF.toArray 164)]:=hm;have g0:=hlt 0;have g1:=hlt 1;have g2:=hlt 2;have g3:=hlt 3;have g4:=hlt 4;have g5:=hlt 5;have g6:=hlt 6;refine IdxV.at_ 4 rfl Od (zw ?_);refine zr hm 1 ?_;refine IdxV.at_ 5 rfl Od (zw ?_);refine zr hm 1 ?_;refine zv ?_;have hsz:(hN l 4:Int)+(hN l 5:Int)+28+8=((hN l 4+hN l 5+36:Nat):Int):=by omega
 rw[hsz];refine IdxV.at_ 0 rfl Od (zw ?_);refine zr hm 1 ?_;refine zC (fun _=>zw ?_) (fun _=>zw ?_)
 ·have hm:Mem w _ [(r,.cells zF.toArray 164)]:=hm.sub ((AP ..).trans (AP ..));refine DrawV.free Jk Jk (zw ?_);apply zsd
  ·intro wd hd;(conv=>whnf);refine LoadA.mem (Mem.call (Mem.drew hm) hd) (i:=0) rfl rfl (zw ?_);exact xq
  (conv=>whnf);apply StepD.of (fun v w=>ErrAt w v (0) 190) (fun _ _ _ h he=>h.ext he)
  ·intro wd hd;(conv=>whnf);refine zcv (qgv (0) 190 wd) ?_;rintro v w9 ⟨h9,he9⟩;exact⟨he9,h9⟩
  (conv=>whnf);apply zsd
  ·intro wd hd;(conv=>whnf);rintro ev hev;(conv=>whnf);refine StoreA.same ((Mem.call (Mem.drew hm) hd).get mh) rfl Od ?_;intro w9 he9;exact⟨he9,rfl⟩
  (conv=>whnf);apply StepD.of (fun v w=>ErrAt w v (0) 190) (fun _ _ _ h he=>h.ext he)
  ·intro wd hd;(conv=>whnf);rintro ev hev;(conv=>whnf);rintro ev2 hev2;(conv=>whnf);obtain⟨eb,rfl,hec⟩:=hev2;(conv=>whnf);exact⟨xr,eb,rfl,hec⟩
  (conv=>whnf);intro w9 he9;(conv=>whnf);rintro ev ⟨eb,rfl,hec⟩;(conv=>whnf);rintro ev2 hev2;(conv=>whnf);have hm9:=(hm.drew.call he9)
  refine qh (R:=fun v w'=>FrR l v w'/\Ext w w') (zw ?_);refine zl hm9 0 ?_;have hR:qas l=(0,190):=by rw[qas,Aa Oo,Ad Oo]
  refine⟨.inl ⟨by rw[hR];simp,_,rfl,?_⟩,hm9.ext⟩;rw[hR];exact⟨eb,rfl,hec⟩
 have hm:=hm.drew;refine zy ?_;refine IdxV.at_ 6 rfl Od (zw ?_);refine zt ?_;refine LoadV.mem (i:=1) Oa rfl rfl (zw ?_);refine zt ?_;refine SliceV.bs (hS.ext hm.ext) rfl 0 24 c rfl rfl rfl Oo Oo Oo znr (fun _=>rfl) ?_;intro A1 hA1;rw[BA]at hA1;refine zu ?_;refine⟨.int .u32 (crcL (l.take 24)).toNat,qab5 (l.take 24) A1 _ _ _ hA1 Ys Ys (hT.ext hm.ext),?_⟩;(conv=>whnf);refine zt ?_;refine zC (fun _=>zw ?_) (fun _=>zw ?_)
 ·have hm:Mem w _ [(r,.cells zF.toArray 164)]:=hm.sub ((AP ..).trans (AP ..));refine DrawV.free Jk Jk (zw ?_);apply zsd
  ·intro wd hd;(conv=>whnf);refine LoadA.mem (Mem.call (Mem.drew hm) hd) (i:=0) rfl rfl (zw ?_);exact xq
  (conv=>whnf);apply StepD.of (fun v w=>ErrAt w v (24) 30) (fun _ _ _ h he=>h.ext he)
  ·intro wd hd;(conv=>whnf);refine zcv (qgv (24) 30 wd) ?_;rintro v w9 ⟨h9,he9⟩;exact⟨he9,h9⟩
  (conv=>whnf);apply zsd
  ·intro wd hd;(conv=>whnf);rintro ev hev;(conv=>whnf);refine StoreA.same ((Mem.call (Mem.drew hm) hd).get mh) rfl Od ?_;intro w9 he9;exact⟨he9,rfl⟩
  (conv=>whnf);apply StepD.of (fun v w=>ErrAt w v (24) 30) (fun _ _ _ h he=>h.ext he)
  ·intro wd hd;(conv=>whnf);rintro ev hev;(conv=>whnf);rintro ev2 hev2;(conv=>whnf);obtain⟨eb,rfl,hec⟩:=hev2;(conv=>whnf);exact⟨xr,eb,rfl,hec⟩
  (conv=>whnf);intro w9 he9;(conv=>whnf);rintro ev ⟨eb,rfl,hec⟩;(conv=>whnf);rintro ev2 hev2;(conv=>whnf);have hm9:=(hm.drew.call he9)
  refine qh (R:=fun v w'=>FrR l v w'/\Ext w w') (zw ?_);refine zl hm9 0 ?_;have hR:qas l=(24,30):=by rw[qas,Aa Oo,Aa Oo,Ad Oo]
  refine⟨.inl ⟨by rw[hR];simp,_,rfl,?_⟩,hm9.ext⟩;rw[hR];exact⟨eb,rfl,hec⟩
 refine IdxV.at_ 1 rfl Od (zw ?_);refine zr hm 1 ?_
 (repeat' refine zC (fun _=>zw ?_) (fun _=>zw ?_))
 ·have hm:Mem w _ [(r,.cells zF.toArray 164)]:=hm.sub ((AP ..).trans (AP ..));refine DrawV.free Jk Jk (zw ?_);apply zsd
  ·intro wd hd;(conv=>whnf);refine LoadA.mem (Mem.call (Mem.drew hm) hd) (i:=0) rfl rfl (zw ?_);exact xq
  (conv=>whnf);apply StepD.of (fun v w=>ErrAt w v (4) 191) (fun _ _ _ h he=>h.ext he)
  ·intro wd hd;(conv=>whnf);refine zcv (qgv (4) 191 wd) ?_;rintro v w9 ⟨h9,he9⟩;exact⟨he9,h9⟩
  (conv=>whnf);apply zsd
  ·intro wd hd;(conv=>whnf);rintro ev hev;(conv=>whnf);refine StoreA.same ((Mem.call (Mem.drew hm) hd).get mh) rfl Od ?_;intro w9 he9;exact⟨he9,rfl⟩
  (conv=>whnf);apply StepD.of (fun v w=>ErrAt w v (4) 191) (fun _ _ _ h he=>h.ext he)
  ·intro wd hd;(conv=>whnf);rintro ev hev;(conv=>whnf);rintro ev2 hev2;(conv=>whnf);obtain⟨eb,rfl,hec⟩:=hev2;(conv=>whnf);exact⟨xr,eb,rfl,hec⟩
  (conv=>whnf);intro w9 he9;(conv=>whnf);rintro ev ⟨eb,rfl,hec⟩;(conv=>whnf);rintro ev2 hev2;(conv=>whnf);have hm9:=(hm.drew.call he9)
  refine qh (R:=fun v w'=>FrR l v w'/\Ext w w') (zw ?_);refine zl hm9 0 ?_;have hR:qas l=(4,191):=by rw[qas,Aa Oo,Aa Oo,Aa Oo,Ad Oo]
  refine⟨.inl ⟨by rw[hR];simp,_,rfl,?_⟩,hm9.ext⟩;rw[hR];exact⟨eb,rfl,hec⟩
 ·have hm:Mem w _ [(r,.cells zF.toArray 164)]:=hm.sub ((AP ..).trans (AP ..));refine DrawV.free Jk Jk (zw ?_);apply zsd
  ·intro wd hd;(conv=>whnf);refine LoadA.mem (Mem.call (Mem.drew hm) hd) (i:=0) rfl rfl (zw ?_);exact xq
  (conv=>whnf);apply StepD.of (fun v w=>ErrAt w v (0) 2) (fun _ _ _ h he=>h.ext he)
  ·intro wd hd;(conv=>whnf);refine zcv (qgv (0) 2 wd) ?_;rintro v w9 ⟨h9,he9⟩;exact⟨he9,h9⟩
  (conv=>whnf);apply zsd
  ·intro wd hd;(conv=>whnf);rintro ev hev;(conv=>whnf);refine StoreA.same ((Mem.call (Mem.drew hm) hd).get mh) rfl Od ?_;intro w9 he9;exact⟨he9,rfl⟩
  (conv=>whnf);apply StepD.of (fun v w=>ErrAt w v (0) 2) (fun _ _ _ h he=>h.ext he)
  ·intro wd hd;(conv=>whnf);rintro ev hev;(conv=>whnf);rintro ev2 hev2;(conv=>whnf);obtain⟨eb,rfl,hec⟩:=hev2;(conv=>whnf);exact⟨xr,eb,rfl,hec⟩
  (conv=>whnf);intro w9 he9;(conv=>whnf);rintro ev ⟨eb,rfl,hec⟩;(conv=>whnf);rintro ev2 hev2;(conv=>whnf);have hm9:=(hm.drew.call he9)
  refine qh (R:=fun v w'=>FrR l v w'/\Ext w w') (zw ?_);refine zl hm9 0 ?_;have hR:qas l=(0,2):=by rw[qas,Aa Oo,Aa Oo,Aa Oo,Aa Oo,Ad Oo]
  refine⟨.inl ⟨by rw[hR];simp,_,rfl,?_⟩,hm9.ext⟩;rw[hR];exact⟨eb,rfl,hec⟩
 ·have hm:Mem w _ [(r,.cells zF.toArray 164)]:=hm.sub ((AP ..).trans (AP ..));refine DrawV.free Jk Jk (zw ?_);apply zsd
  ·intro wd hd;(conv=>whnf);refine LoadA.mem (Mem.call (Mem.drew hm) hd) (i:=0) rfl rfl (zw ?_);exact xq
  (conv=>whnf);refine zd ?_;refine zd ?_;apply StepD.of (fun v w=>ErrAt w v (l.length) 10) (fun _ _ _ h he=>h.ext he)
  ·intro wd hd;(conv=>whnf);refine zcv (qgv (l.length) 10 wd) ?_;rintro v w9 ⟨h9,he9⟩;exact⟨he9,h9⟩
  (conv=>whnf);apply zsd
  ·intro wd hd;(conv=>whnf);rintro ev hev;(conv=>whnf);refine StoreA.same ((Mem.call (Mem.drew hm) hd).get mh) rfl Od ?_;intro w9 he9;exact⟨he9,rfl⟩
  (conv=>whnf);apply StepD.of (fun v w=>ErrAt w v (l.length) 10) (fun _ _ _ h he=>h.ext he)
  ·intro wd hd;(conv=>whnf);rintro ev hev;(conv=>whnf);rintro ev2 hev2;(conv=>whnf);obtain⟨eb,rfl,hec⟩:=hev2;(conv=>whnf);exact⟨xr,eb,rfl,hec⟩
  (conv=>whnf);intro w9 he9;(conv=>whnf);rintro ev ⟨eb,rfl,hec⟩;(conv=>whnf);rintro ev2 hev2;(conv=>whnf);have hm9:=(hm.drew.call he9)
  refine qh (R:=fun v w'=>FrR l v w'/\Ext w w') (zw ?_);refine zl hm9 0 ?_;have hR:qas l=(l.length,10):=by rw[qas,Aa Oo,Aa Oo,Aa Oo,Aa Oo,Aa Oo,Ad Oo]
  refine⟨.inl ⟨by rw[hR];simp,_,rfl,?_⟩,hm9.ext⟩;rw[hR];exact⟨eb,rfl,hec⟩
 ·have hm:Mem w _ [(r,.cells zF.toArray 164)]:=hm.sub ((AP ..).trans (AP ..));refine DrawV.free Jk Jk (zw ?_);apply zsd
  ·intro wd hd;(conv=>whnf);refine LoadA.mem (Mem.call (Mem.drew hm) hd) (i:=0) rfl rfl (zw ?_);exact xq
  (conv=>whnf);refine zd ?_;apply StepD.of (fun v w=>ErrAt w v (hN l 4+hN l 5+36) 13) (fun _ _ _ h he=>h.ext he)
  ·intro wd hd;(conv=>whnf);refine zcv (qgv (hN l 4+hN l 5+36) 13 wd) ?_;rintro v w9 ⟨h9,he9⟩;exact⟨he9,h9⟩
  (conv=>whnf);apply zsd
  ·intro wd hd;(conv=>whnf);rintro ev hev;(conv=>whnf);refine StoreA.same ((Mem.call (Mem.drew hm) hd).get mh) rfl Od ?_;intro w9 he9;exact⟨he9,rfl⟩
  (conv=>whnf);apply StepD.of (fun v w=>ErrAt w v (hN l 4+hN l 5+36) 13) (fun _ _ _ h he=>h.ext he)
  ·intro wd hd;(conv=>whnf);rintro ev hev;(conv=>whnf);rintro ev2 hev2;(conv=>whnf);obtain⟨eb,rfl,hec⟩:=hev2;(conv=>whnf);exact⟨xr,eb,rfl,hec⟩
  (conv=>whnf);intro w9 he9;(conv=>whnf);rintro ev ⟨eb,rfl,hec⟩;(conv=>whnf);rintro ev2 hev2;(conv=>whnf);have hm9:=(hm.drew.call he9)
  refine qh (R:=fun v w'=>FrR l v w'/\Ext w w') (zw ?_);refine zl hm9 0 ?_;have hR:qas l=(hN l 4+hN l 5+36,13):=by rw[qas,Aa Oo,Aa Oo,Aa Oo,Aa Oo,Aa Oo,Aa Oo,Ad Oo]
  refine⟨.inl ⟨by rw[hR];simp,_,rfl,?_⟩,hm9.ext⟩;rw[hR];exact⟨eb,rfl,hec⟩
 have hR:qas l=(0,0):=by rw[qas,Aa Oo,Aa Oo,Aa Oo,Aa Oo,Aa Oo,Aa Oo,Aa Oo]
 refine IdxV.at_ 2 rfl Od (zw ?_);refine zr hm 1 ?_;refine zv ?_;refine IdxV.at_ 3 rfl Od (zw ?_);refine zr hm 1 ?_;refine zv ?_;refine IdxV.at_ 4 rfl Od (zw ?_);refine zr hm 1 ?_;refine zv ?_;refine IdxV.at_ 5 rfl Od (zw ?_);refine zr hm 1 ?_;refine zv ?_;refine StoreA.mem hm (i:=2) rfl (show 0+4<=10 by decide) (by intro v hv;simp at hv;rcases hv with rfl|rfl|rfl|rfl<;>rfl) fun w5 hm=>zw ?_;refine StoreV.mem hm (i:=2) rfl (show 6<10 by decide) rfl fun w6 hm=>zw ?_;refine IdxV.at_ 4 rfl Od (zw ?_);refine zr hm 1 ?_;refine zv ?_;refine StoreV.mem hm (i:=2) rfl (show 7<10 by decide) rfl ?_;intro w7 hm;have e32:28+(hN l 4:Int)+4=((32+hN l 4:Nat):Int):=by omega
 rw[e32]at hm;(conv=>whnf);refine zr hm 2 ?_;refine zr hm 2 ?_;refine zt ?_;refine LoadV.mem (i:=2) Oa rfl rfl (zw ?_);refine zt ?_;refine SliceV.bs hS rfl 28 (28+hN l 4) (28+hN l 4) rfl (by show((32+hN l 4:Nat):Int)-4=((28+hN l 4:Nat):Int);omega) (by show((32+hN l 4:Nat):Int)-4=((28+hN l 4:Nat):Int);omega) Oo Oo znr Oo (fun _=>rfl) ?_;intro A1 hA1;have e28:28+hN l 4-28=hN l 4:=by omega
 rw[e28]at hA1|-;(conv=>whnf);refine StoreV.mem hm (i:=2) rfl (show 4<10 by decide) rfl fun w8 hm=>zw ?_;refine zr hm 2 ?_;refine zv ?_;refine SliceV.bs hS rfl (32+hN l 4) (32+hN l 4+hN l 5) (32+hN l 4+hN l 5) rfl (by show((hN l 4:Int)+(hN l 5:Int))+28+8-4=((32+hN l 4+hN l 5:Nat):Int);omega) (by show((hN l 4:Int)+(hN l 5:Int))+28+8-4=((32+hN l 4+hN l 5:Nat):Int);omega) Oo Oo znr Oo (fun _=>rfl) ?_;intro A2 hA2;have e29:32+hN l 4+hN l 5-(32+hN l 4)=hN l 5:=by omega
 rw[e29]at hA2|-;(conv=>whnf);refine StoreV.mem hm (i:=2) rfl (show 5<10 by decide) rfl ?_;intro w9 hm;have hm:Mem w w9 [_,_,(r,.cells #[ii (hN l 2),ii (hN l 3),ii (hN l 4),ii (hN l 5),.slice A1 (hN l 4) (hN l 4),.slice A2 (hN l 5) (hN l 5),ii 28,ii ((32+hN l 4:Nat):Int),.int .u32 0,.int .u32 0] 164)]:=hm;(conv=>whnf);obtain⟨g,off,hA,_⟩:=hS.at_ (by intro e;rw[e]at h28;simp at h28);subst hA;obtain⟨n1,hn1⟩:∃n,n=leN ((l.drop (28+hN l 4)).take 4):=⟨_,rfl⟩
 obtain⟨n2,hn2⟩:∃n,n=leN ((l.drop (32+hN l 4+hN l 5)).take 4):=⟨_,rfl⟩
 have b1:n1<4294967296:=by
  have:=qaw (l.drop (28+hN l 4)) 4 (by rw[zld];omega);rw[hn1];simpa using this
 have b2:n2<4294967296:=by
  have:=qaw (l.drop (32+hN l 4+hN l 5)) 4 (by rw[zld];omega);rw[hn2];simpa using this
 have hBA:∀wx,Ext w wx->BS wx (.slice (some ⟨g,off+(28+hN l 4),none⟩) (l.length-(28+hN l 4)) (c-(28+hN l 4))) (l.drop (28+hN l 4)):=fun wx he=>BS.rest (hS.ext he) hc Oo
 have hBB:∀wx,Ext w wx->BS wx (.slice (some ⟨g,off+(32+hN l 4+hN l 5),none⟩) (l.length-(32+hN l 4+hN l 5)) (c-(32+hN l 4+hN l 5))) (l.drop (32+hN l 4+hN l 5)):=fun wx he=>BS.rest (hS.ext he) hc Oo
 obtain⟨F,hF⟩:∃F:Ez->Prop,F=fun w'=>Mem w w' [(cb,curO 288 (.slice (some ⟨g,off,none⟩) l.length c) 28 0),(nb,.cells (nsL l 7).toArray 218),(r,.cells #[ii (hN l 2),ii (hN l 3),ii (hN l 4),ii (hN l 5),.slice A1 (hN l 4) (hN l 4),.slice A2 (hN l 5) (hN l 5),ii 28,ii ((32+hN l 4:Nat):Int),.int .u32 n1,.int .u32 n2] 164)]:=⟨_,rfl⟩
 refine DrawV.gen (fun S vals w'=>Two w9.drew (curO 288 (.slice (some ⟨g,off+(28+hN l 4),none⟩) (l.length-(28+hN l 4)) (c-(28+hN l 4))) 0 0) (curO 288 (.slice (some ⟨g,off+(32+hN l 4+hN l 5),none⟩) (l.length-(32+hN l 4+hN l 5)) (c-(32+hN l 4+hN l 5))) 0 0) F (S 2) (S 5) (S 6) (S 12) (S 13) (S 17) (vals 5) (vals 12) w') rfl Jk (fun vals=>Two.start) (zw ?_);refine zg ?_;refine zg ?_
 ·refine StepG.of (ii ((32+hN l 4:Nat):Int)) (fun S vals wd hk hp hI=>?_) (zw ?_)
  ·dsimp only at hI;rw[hk]at hI;(conv=>whnf);refine LoadV.mem (hm.drew.call hI.ext0) (i:=2) rfl rfl (zw ?_);exact⟨rfl,hI.load⟩
  refine zg ?_
  ·refine StepG.of (.slice (some ⟨g,off+(28+hN l 4),none⟩) (l.length-(28+hN l 4)) (c-(28+hN l 4))) (fun S vals wd hk hp hI=>zw ?_) (zw ?_)
   ·refine SliceV.rest (28+hN l 4) (by show((32+hN l 4:Nat):Int)-4=((28+hN l 4:Nat):Int);omega) hc Oo (zw ?_);exact⟨rfl,hI⟩
   ·refine StepG.any (fun S vals wd hk hp hI=>?_) (zw ?_)
    ·dsimp only at hI;rw[hk]at hI;(conv=>whnf);refine zcv (qem _ _ wd (hBA wd (hm.drew.ext.trans hI.ext1))) ?_;rintro v wx ⟨b,rfl,hb,hb2,he⟩;(conv=>whnf);exact⟨trivial,Two.read1 hI he ⟨b,rfl,hb,hb2⟩⟩
    refine StepG.of (.int .u64 n1) (fun S vals wd hk hp hI=>?_) (zw ?_)
    ·dsimp only at hI;have h5:S 5=true:=hp 5 Od;rw[hk]at hI;obtain⟨he0,b,hv5,hb,hb2⟩:=hI.cur1 h5;rw[ql hv5];(conv=>whnf);refine zcv (qiq b _ 0 (l.drop (28+hN l 4)) wd hb2 (hBA wd (hm.drew.ext.trans he0)) (by rw[zld];omega) (by rw[zld];omega)) ?_;rintro v wx ⟨rfl,hu⟩;(conv=>whnf);exact⟨by rw[hn1,BA];rfl,hI.fix1 h5 (hu.ext he0 hb)⟩
    (iterate 4 (refine zg ?_))
    ·refine StepG.of (.slice (some ⟨g,off+(32+hN l 4+hN l 5),none⟩) (l.length-(32+hN l 4+hN l 5)) (c-(32+hN l 4+hN l 5))) (fun S vals wd hk hp hI=>zw ?_) (zw ?_)
     ·refine SliceV.rest (32+hN l 4+hN l 5) (by show((hN l 4+hN l 5+36:Nat):Int)-4=((32+hN l 4+hN l 5:Nat):Int);omega) hc Oo (zw ?_);exact⟨rfl,hI⟩
     refine StepG.any (fun S vals wd hk hp hI=>?_) (zw ?_)
     ·dsimp only at hI;have h6:S 6=true:=hp 6 Od;rw[hk]at hI;(conv=>whnf);refine zcv (qem _ _ wd (hBB wd (hm.drew.ext.trans hI.ext2))) ?_;rintro v wx ⟨b,rfl,hb,hb2,he⟩;(conv=>whnf);exact⟨trivial,Two.read2 hI h6 he ⟨b,rfl,hb,hb2⟩⟩
     refine StepG.of (.int .u64 n2) (fun S vals wd hk hp hI=>?_) (zw ?_)
     ·dsimp only at hI;have h12:S 12=true:=hp 12 Od;rw[hk]at hI;obtain⟨he0,b,hv5,hb,hb2⟩:=hI.cur2 h12;rw[ql hv5];(conv=>whnf);refine zcv (qiq b _ 0 (l.drop (32+hN l 4+hN l 5)) wd hb2 (hBB wd (hm.drew.ext.trans he0)) (by rw[zld];omega) (by rw[zld];omega)) ?_;rintro v wx ⟨rfl,hu⟩;(conv=>whnf);exact⟨by rw[hn2,BA];rfl,hI.fix2 h12 (hu.ext he0 hb)⟩
     (iterate 3 (refine zg ?_));refine StepG.of undef (fun S vals wd hk hp hI=>?_) (zw ?_)
     ·dsimp only at hI;have h2:S 2=true:=hp 2 Od;have h5:S 5=true:=hp 5 Od;have h6:S 6=true:=hp 6 Od;have h12:S 12=true:=hp 12 Od;have h13:S 13=true:=hp 13 Od;rw[hk]at hI;have he0:=(hI.a rfl).1;(conv=>whnf);refine StoreA.mem (hm.drew.call he0) (i:=2) rfl (show 8+2<=10 by decide) (by intro v hv;simp at hv;rcases hv with rfl|rfl<;>rfl) fun wx hmx=>zw ?_;refine⟨rfl,?_⟩;refine⟨fun h=>(by cases h),hI.d,hI.e,fun _=>⟨by rw[hF];exact hmx,h2,h5,h6,h12,h13⟩⟩
     intro vals w10 hI;have hm10:=(hI.f rfl).1;rw[hF]at hm10;(conv=>whnf);refine zl hm10 2 ?_;refine StoreA.same (hm10.get (zmc (zmc mh))) rfl (by intro v hv;simp at hv;rcases hv with rfl|rfl|rfl|rfl|rfl|rfl|rfl|rfl|rfl|rfl<;>rfl) fun w11 he11=>zw ?_;refine qh (R:=fun v w'=>FrR l v w'/\Ext w w') (zw ?_);have hm11:=hm10.call he11;refine zl hm11 2 ?_;refine⟨.inr ⟨by rw[hR],A1,A2,?_,?_,?_⟩,hm11.ext⟩
     ·rw[okF,<-hn1,<-hn2];rfl
     ·exact hA1.ext hm11.ext
     ·exact hA2.ext hm11.ext
theorem qcp:EG.underlying 60=some (.slice 5):=Tryz.underlying60
theorem bytI:EG.info? 5=some ((EG.info? 5).get Jk):=(Bn _).symm
theorem bytZ:((EG.info? 5).get Jk).zero=some (.int .u8 0):=by kernel_rfl
def fixL(n:Nat):Nat->LB
 | 0=>[]
 | k+1=>fixL n k++[UInt8.ofNat (n/2 ^ (8*k)%256)]
theorem qi(n k:Nat):(fixL n k).length=k:=by
 induction k with
 | zero=>rfl
 | succ k ih=>simp[fixL,ih]
theorem qiw(n k:Nat):leN (fixL n k)=n%256 ^ k:=by
 induction k with
 | zero=>simp[fixL,leN,Nat.mod_one]
 | succ k ih=>
  rw[fixL,q1j,ih,qi];have e:(2:Nat) ^ (8*k)=256 ^ k:=by rw[Nat.pow_mul]
  have e2:(UInt8.ofNat (n/2 ^ (8*k)%256)).toNat=n/256 ^ k%256:=by
   rw[e];simp
  simp only[leN,e2,Nat.mul_zero,BH];rw[DI,Nat.mod_mul]
namespace V
theorem SlAt.rest{a:Nat}(hA:SlAt encB 1 w (some ⟨g,off,none⟩) l)(ha:a<l.length):SlAt encB 1 w (some ⟨g,off+a,none⟩) (l.drop a):=by
 have:=hA.cut (A':=some ⟨g,off+a,none⟩) (lo:=a) (hi:=l.length) (m:=l.length) Oo znr znr (by rw[Aa Oo,Bk,B4,qan])
 rwa[AF Js]at this
theorem Rw.byts{n:Nat}{zs:LB}(h:Rw w0 w (.slice A n c) e 1 n (zs.map fun c=>Value.int .u8 c.toNat) L)(hn:zs.length=n):BS w (.slice A n c) zs:=by
 subst hn;refine⟨A,c,rfl,?_,⟨fun hne=>?_⟩⟩
 ·rcases h.own.2 with⟨e1,e2⟩|⟨g,cap,cur,e1,_,_,hnc,_⟩
  ·omega
  ·cases e1;exact hnc
 ·obtain⟨g,rfl,_,_,_,hc⟩:=h.cells (Cc.2 hne);refine⟨g,0,rfl,fun j x hx k v hv=>?_⟩;cases k with
  | succ k=>simp[encB]at hv
  | zero=>
   simp only[encB,B9,Bp]at hv;subst hv;have:=hc j (.int .u8 x.toNat) (by rw[Ao,hx];rfl)
   simpa using this
theorem Wit.shrN{k:IntKind}{a:Nat}{b:Int}{K:Int->Prop}(n:Nat)(e:b=(n:Int))(hn:n<k.bits)(hk:K ((a/2 ^ n:Nat):Int)):
  Wit (fun r=>0<=b/\b<k.bits/\(a:Int)/2 ^ b.toNat=r) K:=by
 subst e;refine⟨_,⟨by omega,by omega,?_⟩,hk⟩;rw[Db];simp
theorem BytesS.sl{n:Nat}{K:E8->Prop}(h:SlAt encB 1 w A l)(hn:l.length=n)(hk:K (.string ⟨l.toArray⟩)):BytesS w A n K:=
 ⟨l,hn,fun hne=>by
  obtain⟨b,off,h1,h2⟩:=h.at_ hne;refine⟨b,off,h1,fun k v hv=>?_⟩;rw[byteCells,Ao]at hv;obtain⟨x,hx,rfl⟩:=DW.1 hv;have:=h2 k x hx 0 (.int .u8 x.toNat) rfl
  simpa using this,hk⟩
theorem Wit.low8{a:Nat}{K:Int->Prop}(hk:K ((a%256:Nat):Int)):Wit (fun r=>IntKind.u8.wrap (a:Int)=r) K:=by
 refine⟨_,?_,hk⟩;simp[IntKind.wrap,IntKind.bits,IntKind.signed]
end V
theorem q6u(w:Ez):Gv EG 195 [ii 4] w fun r w'=>r=ii 4/\w'=w:=by
 refine ze Tryz.func195 Tryz.ntmps195 ?_;refine V.Fall.min2 rfl rfl rfl fun m hm=>?_;obtain rfl:m=4:=by omega
 (conv=>whnf);refine V.Fall.max2 rfl rfl rfl fun m hm=>?_;obtain rfl:m=4:=by omega
 (conv=>whnf);exact⟨rfl,rfl⟩
theorem qnc(n:Nat)(w:Ez)(_hn:n<4294967296):
  Gv EG 129 [.int .u64 n,ii 4] w fun r w'=>BS w' r (fixL n 4)/\Ext w w':=by
 refine ze Tryz.func129 Tryz.ntmps129 ?_;refine qj (fun x:Nat×oA×Nat=>[(0,.int .u64 n),(1,ii 4),(5,.slice x.2.1 x.1 x.2.2),(6,ii x.1)])
  (fun x w2=>x.1<=4/\Rw w w2 (.slice x.2.1 x.1 x.2.2) 5 1 x.1 ((fixL n x.1).map fun c=>Value.int .u8 c.toNat) []) (fun x=>4-x.1) (0,none,0) fq ⟨by simp,Rw.nil (Mem.nil w)⟩ ?_
 rintro⟨i,A,c⟩ w2 ρ' ⟨h1,hR⟩;dsimp only at h1 hR|-;(conv=>whnf);refine zcv (q6u w2) ?_;rintro r w3 ⟨rfl,rfl⟩;(conv=>whnf);refine zC (fun _=>zu ?_) (fun _=>zu ?_)
 ·refine V.Wit.shrN (8*i) Oo (by show 8*i<64;omega) (zw ?_);refine V.Wit.low8 (zw ?_);refine NewV.rw hR fun nb w4 hR4=>zw ?_;refine AppV.one qcp bytI bytZ Jk rfl (by decide +kernel) hR4 rfl Oo ?_;intro B' d' w5 hR5;refine zu ?_;refine⟨(i+1,B',d'),fq,⟨by simp only;omega,?_⟩,by simp only;omega⟩;simp only[fixL,AB,AO,BM];have e:(UInt8.ofNat (n/2 ^ (8*i)%256)).toNat=n/2 ^ (8*i)%256:=by simp
  rw[e];exact hR5
 ·obtain rfl:i=4:=by omega
  exact⟨hR.byts (qi n 4),hR.mem.ext⟩
theorem ql5(l:LB)(A:oA)(n c:Nat)(w:Ez)(hS:SlAt encB 1 w A l)(hn:l.length=n)(hl:l.length<=140737488355328):
  Gv EG 85 [.slice A n c] w fun r w'=>BS w' r (fixL (crcL l).toNat 4)/\Ext w w':=by
 have hs:=qyr l A n c w hS hn hl;have hlt:=qw6 (crcL l);refine ze Tryz.func85 Tryz.ntmps85 ?_;refine zcv (hs) ?_;rintro r w1 ⟨rfl,rfl⟩;refine zu ?_;refine zcv (qnc _ w1 hlt) ?_;rintro r w2 ⟨⟨A',c',rfl,h1,h2⟩,he2⟩;(conv=>whnf);exact⟨⟨A',c',rfl,h1,h2⟩,he2⟩
section
variable {wd w w':Ez} {o:Obj} {F:E9} {s2 s5 s8 s11 s12 s13:Bool} {v12:E8}
end
def upN(n b:Nat):Nat:=(n+b-1)/b
def qaa(n:Nat):Nat:=8+upN n 8
def qbi(n:Nat):Nat:=qaa n+4*upN n 2048
def qdn(n:Nat):Nat:=qbi n+2*upN n 256
def qch(n m:Nat):Nat:=qdn n+4*upN m 512
def cutV(n m:Nat):EE:=[ii 8,ii (qaa n),ii (qbi n),ii (qdn n),ii (qch n m)]
theorem qb9(n b:Nat)(hb:0<b):upN n b<=n:=by
 unfold upN
 rcases BZ n with rfl|hn
 ·rw[Aw,Et Oo];exact Aq _
 ·have:(n+b-1)/b<n+1:=by
   rw[Nat.div_lt_iff_lt_mul hb];have h:n+b<=n*b+1*b:=by rw[Eq];exact Nat.add_le_add_right (Nat.le_mul_of_pos_right n hb) b
   rw[Eh];omega
  omega
theorem qaeh(n b:Nat)(hb:0<b):((n:Int)+(b:Int)-1)/(b:Int)=((upN n b:Nat):Int):=by
 have:(n:Int)+(b:Int)-1=((n+b-1:Nat):Int):=by omega
 rw[this,upN,Int.natCast_ediv]
theorem qw8(n b:Nat)(w:Ez)(hn:n<=8796093022208)(hb:0<b)(hb2:b<=1048576):Gv EG 170 [ii n,ii b] w fun r w'=>r=ii (upN n b)/\w'=w:=by
 refine ze Tryz.func170 Tryz.ntmps170 ?_;refine zv ?_;have hq:=qaeh n b hb;have hle:=qb9 n b hb;rw[hq];refine Obl.mk ⟨by omega,by omega,⟨by omega,by omega⟩⟩ (zw ?_);exact⟨rfl,rfl⟩
theorem qz1(n m:Nat)(w:Ez)(hn:n<=67108864)(hm:m<=67108864):Gv EG 173 [ii n,ii m] w fun r w'=>r=.agg (cutV n m).toArray/\Ext w w':=by
 have u1:=qb9 n 8 Od;have u2:=qb9 n 2048 Od;have u3:=qb9 n 256 Od;have u4:=qb9 m 512 Od;have g1:qaa n=8+upN n 8:=rfl;have g2:qbi n=qaa n+4*upN n 2048:=rfl;have g3:qdn n=qbi n+2*upN n 256:=rfl;refine ze Tryz.func173 Tryz.ntmps173 ?_;refine znm (Mem.nil w) fun r w1 hm=>zw ?_;refine znm hm fun p w2 hm=>zw ?_;refine StoreA.all hm (i:=0) rfl rfl Od fun w3 hm=>zw ?_;refine DrawV.own rfl Jk (zw ?_);refine zo ?_;refine zO ?_ (by intro wd hd;(conv=>whnf);refine LoadV.mem (Mem.call (Mem.drew hm) hd) (i:=0) rfl rfl ?_;(conv=>whnf);exact PostO.still xr rfl);(conv=>whnf);refine zo ?_;apply StepO.still
 ·intro wd hd;(conv=>whnf);refine zcv (qw8 n 8 wd Oo Od Od) ?_;rintro v w9 ⟨rfl,rfl⟩;exact PostO.still xr rfl
 (conv=>whnf);refine zo ?_;refine zo ?_;intro w4 hd
 (repeat(intro _;(conv=>whnf)))
 (conv=>whnf);refine StoreV.mem (hm.drew.call hd) (i:=0) rfl (show 1<5 by decide) rfl fun w5 hm=>zw ?_;refine DrawV.own rfl Jk (zw ?_);refine zo ?_;refine zO ?_ (by intro wd hd;(conv=>whnf);refine LoadV.mem (Mem.call (Mem.drew hm) hd) (i:=0) rfl rfl ?_;(conv=>whnf);exact PostO.still xr rfl);(conv=>whnf);refine zo ?_;apply StepO.still
 ·intro wd hd;(conv=>whnf);refine zcv (qw8 n 2048 wd Oo Od Od) ?_;rintro v w9 ⟨rfl,rfl⟩;exact PostO.still xr rfl
 (conv=>whnf);(iterate 3 (refine zo ?_));intro w10 hd
 (repeat(intro _;(conv=>whnf)))
 (conv=>whnf);refine StoreV.mem (hm.drew.call hd) (i:=0) rfl (show 2<5 by decide) rfl fun w11 hm=>zw ?_;refine DrawV.own rfl Jk (zw ?_);refine zo ?_;refine zO ?_ (by intro wd hd;(conv=>whnf);refine LoadV.mem (Mem.call (Mem.drew hm) hd) (i:=0) rfl rfl ?_;(conv=>whnf);exact PostO.still xr rfl);(conv=>whnf);refine zo ?_;apply StepO.still
 ·intro wd hd;(conv=>whnf);refine zcv (qw8 n 256 wd Oo Od Od) ?_;rintro v w9 ⟨rfl,rfl⟩;exact PostO.still xr rfl
 (conv=>whnf);(iterate 3 (refine zo ?_));intro w12 hd
 (repeat(intro _;(conv=>whnf)))
 (conv=>whnf);refine StoreV.mem (hm.drew.call hd) (i:=0) rfl (show 3<5 by decide) rfl fun w13 hm=>zw ?_;refine DrawV.own rfl Jk (zw ?_);refine zo ?_;refine zO ?_ (by intro wd hd;(conv=>whnf);refine LoadV.mem (Mem.call (Mem.drew hm) hd) (i:=0) rfl rfl ?_;(conv=>whnf);exact PostO.still xr rfl);(conv=>whnf);refine zo ?_;apply StepO.still
 ·intro wd hd;(conv=>whnf);refine zcv (qw8 m 512 wd Oo Od Od) ?_;rintro v w9 ⟨rfl,rfl⟩;exact PostO.still xr rfl
 (conv=>whnf);(iterate 3 (refine zo ?_));intro w14 hd
 (repeat(intro _;(conv=>whnf)))
 (conv=>whnf);refine StoreV.mem (hm.drew.call hd) (i:=0) rfl (show 4<5 by decide) rfl fun w15 hm=>zw ?_;refine zl hm 0 ?_;refine StoreA.all hm (i:=1) rfl rfl (by intro v hv;simp at hv;rcases hv with rfl|rfl|rfl|rfl|rfl<;>rfl) fun w20 hm=>zw ?_;refine qh (R:=fun r w'=>r=.agg (cutV n m).toArray/\Ext w w') (zw ?_);refine zl hm 1 ?_;exact⟨rfl,hm.ext⟩
theorem qus(n m:Nat)(hn:n<=67108864)(hm:m<=n):qch n m<=1000000000:=by
 have u1:=qb9 n 8 Od;have u2:=qb9 n 2048 Od;have u3:=qb9 n 256 Od;have u4:=qb9 m 512 Od;unfold qch qdn qbi qaa;omega
theorem q24(n m:Nat)(w:Ez)(hn:n<=67108864)(hm:m<=n):Gv EG 139 [ii n,ii m] w fun r w'=>r=ii (qch n m)/\Ext w w':=by
 refine ze Tryz.func139 Tryz.ntmps139 ?_;refine zv ?_;refine zcv (qz1 n m w hn Oo) ?_;rintro v w9 ⟨rfl,he⟩;(conv=>whnf);exact⟨rfl,he⟩
theorem qd2(p c:Nat)(w:Ez):Gv EG 200 [ii p,ii c] w fun v w'=>ErrAt w' v p c/\Ext w w':=by
 refine ze Tryz.func200 Tryz.ntmps200 ?_;refine znm (Mem.nil w) fun b w1 hm=>zw ?_;exact⟨⟨b,rfl,CellsAt.mem hm mh⟩,hm.ext⟩
theorem qbw(p c:Nat)(w:Ez):Gv EG 138 [ii p,ii c] w fun v w'=>ErrAt w' v p c/\Ext w w':=by
 refine ze Tryz.func138 Tryz.ntmps138 ?_;refine znm (Mem.nil w) fun b w1 hm=>zw ?_;exact⟨⟨b,rfl,CellsAt.mem hm mh⟩,hm.ext⟩
theorem qfv(p c:Nat)(w:Ez):Gv EG 217 [ii p,ii c] w fun v w'=>ErrAt w' v p c/\Ext w w':=by
 refine ze Tryz.func217 Tryz.ntmps217 ?_;refine znm (Mem.nil w) fun b w1 hm=>zw ?_;exact⟨⟨b,rfl,CellsAt.mem hm mh⟩,hm.ext⟩
def vN(l:LB):Nat:=leN (l.take 4)
def vM(l:LB):Nat:=leN ((l.drop 4).take 4)
def vOk(l:LB):Bool:=decide (8<=l.length)&&decide (vN l<=67108864)&&decide (vM l<=vN l)&&decide (l.length=qch (vN l) (vM l))
def vecC(s:E8)(n m:Nat):EH:=#[s,ii n,ii m,ii 8,ii (qaa n),ii (qbi n),ii (qdn n),ii (qch n m)]
def vecO(t:E6)(s:E8)(n m:Nat):Obj:=.cells (vecC s n m) t
structure Sto(wd:Ez)(F:EC)(s4 s8 s9 s12:Bool)(w:Ez):Prop where
 a:s12=false->Ext wd w
 f:s12=true->F w/\s4=true/\s8=true/\s9=true
section
variable {wd w w':Ez} {F:EC} {s4 s8 s9 s12:Bool}
theorem Sto.start:Sto wd F false false false false wd:=⟨fun _=>xr,fun h=>(by cases h)⟩
theorem Sto.of{u4 u8 u9:Bool}(h:Sto wd F s4 s8 s9 s12 w)(h12:s12=false)(he:Ext w w'):Sto wd F u4 u8 u9 s12 w':=⟨fun h'=>(h.a h').trans he,fun h'=>(by rw[h12]at h';cases h')⟩
theorem Sto.z4(h:Sto wd F false s8 s9 s12 w):s12=false:=by
 cases h':s12
 ·rfl
 ·have:=(h.f h').2.1;cases this
theorem Sto.z8(h:Sto wd F s4 false s9 s12 w):s12=false:=by
 cases h':s12
 ·rfl
 ·have:=(h.f h').2.2.1;cases this
theorem Sto.z9(h:Sto wd F s4 s8 false s12 w):s12=false:=by
 cases h':s12
 ·rfl
 ·have:=(h.f h').2.2.2;cases this
end
def qaco(l:LB)(s:E8)(v:E8)(w0 w:Ez):Prop:=
 (vOk l=false/\(∃e p c,v=.tuple #[.pointer none,.bool false,e]/\ErrAt w e p c\/∃b,v=.tuple #[pp b,.bool false,.nilIface]/\w0.heap.size<=b/\w.heap[b]?=some (vecO 295 s (vN l) (vM l))/\vN l<=67108864/\vM l<=vN l))\/
 (vOk l=true/\∃b,v=.tuple #[pp b,.bool true,.nilIface]/\w0.heap.size<=b/\w.heap[b]?=some (vecO 295 s (vN l) (vM l)))
theorem q29(l:LB)(A:oA)(c:Nat)(w:Ez)(hS:SlAt encB 1 w A l)(hc:l.length<=c)(hl:l.length<=140737488355328):
  Gv EG 199 [.slice A l.length c] w fun v w'=>qaco l (.slice A l.length c) v w w'/\Ext w w':=by
 refine ze Tryz.func199 Tryz.ntmps199 ?_;refine zC (fun _=>zw ?_) (fun _=>zw ?_)
 ·refine zcv (qd2 l.length 10 w) ?_;rintro v w9 ⟨⟨b,rfl,h9⟩,he9⟩;(conv=>whnf);refine⟨.inl ⟨?_,_,_,_,.inl ⟨rfl,b,rfl,h9⟩⟩,he9⟩;rw[vOk,AH Oo];rfl
 have h8:8<=l.length:=by omega
 obtain⟨g,off,hA,_⟩:=hS.at_ (by intro e;rw[e]at h8;simp at h8);subst hA;have hN:vN l<4294967296:=by
  have:=qaw l 4 Oo
  simpa[vN]using this
 have hM:vM l<4294967296:=by
  have:=qaw (l.drop 4) 4 (by rw[zld];omega)
  simpa[vM]using this
 refine DrawV.free Jk Jk (zw ?_);refine zd ?_;refine zd ?_;apply zsd
 ·intro wd hd;(conv=>whnf);refine zcv (qok l (some ⟨g,off,none⟩) _ c wd (hS.ext ((Ext.refl w).drew.trans hd)) rfl Oo) ?_;rintro v w9 ⟨rfl,h9⟩;exact⟨h9,rfl⟩
 (conv=>whnf);refine zd ?_;apply zsd
 ·intro wd hd;(conv=>whnf);refine SliceV.rest 4 rfl hc Oo (zw ?_);exact xq
 (conv=>whnf);apply zsd
 ·intro wd hd;(conv=>whnf);refine zcv (qok (l.drop 4) _ _ _ wd (SlAt.rest (hS.ext ((Ext.refl w).drew.trans hd)) Oo) (by rw[zld]) (by rw[zld];omega)) ?_;rintro v w9 ⟨rfl,h9⟩;exact⟨h9,rfl⟩
 (conv=>whnf);refine zd ?_;apply StepD.of (fun v wx=>∃b,v=pp b/\w.drew.heap.size<=b/\wx.heap[b]?=some (.cells #[.slice (some ⟨g,off,none⟩) l.length c,ii (vN l),ii (vM l),ii 0,ii 0,ii 0,ii 0,ii 0] 295))
  (fun _ _ _ h he=>let⟨b,h1,h2,h3⟩:=h;⟨b,h1,h2,he.get h3⟩)
 ·intro wd hd;(conv=>whnf);refine⟨fun x wx hb hw=>?_⟩;subst hb hw;(conv=>whnf);exact⟨xr.alloc _,_,rfl,hd.size,heap_alloc_new _ _⟩
 (conv=>whnf);apply StepD.of (fun v wx=>∃b,v=pp b/\w.drew.heap.size<=b/\wx.heap[b]?=some (.cells #[.slice (some ⟨g,off,none⟩) l.length c,ii (vN l),ii (vM l),ii 0,ii 0,ii 0,ii 0,ii 0] 295))
  (fun _ _ _ h he=>let⟨b,h1,h2,h3⟩:=h;⟨b,h1,h2,he.get h3⟩)
 ·intro wd hd;(conv=>whnf);rintro _ _;(conv=>whnf);rintro v ⟨b,rfl,h1,h2⟩;(conv=>whnf);exact⟨xr,b,rfl,h1,h2⟩
 (conv=>whnf);intro w9 he9;(conv=>whnf);rintro v ⟨b,rfl,hb,ho⟩;(conv=>whnf);intro _ _;(conv=>whnf);have hm:=(Mem.nil w).drew.fresh he9 hb ho;refine LoadV.mem (i:=0) Oa rfl rfl (zw ?_);refine zC (fun _=>zw ?_) (fun _=>zw ?_)
 ·refine zcv (qd2 0 2 w9) ?_;rintro v w10 ⟨⟨b1,rfl,h9⟩,he10⟩;(conv=>whnf);refine⟨.inl ⟨?_,_,_,_,.inl ⟨rfl,b1,rfl,h9⟩⟩,hm.ext.trans he10⟩;rw[vOk,Az Oo,AH Oo];rfl
 refine zy ?_;have hm:=hm.drew;refine zt ?_;refine LoadV.mem (i:=0) Oa rfl rfl (zw ?_);refine zt ?_;refine LoadV.mem (i:=0) Oa rfl rfl (zw ?_);refine zt ?_;refine zC (fun _=>zw ?_) (fun _=>zw ?_)
 ·refine zcv (qd2 4 20 w9.drew) ?_;rintro v w10 ⟨⟨b1,rfl,h9⟩,he10⟩;(conv=>whnf);refine⟨.inl ⟨?_,_,_,_,.inl ⟨rfl,b1,rfl,h9⟩⟩,hm.ext.trans he10⟩;rw[vOk,Az Oo,Az Oo,AH Oo];rfl
 have g1:vN l<=67108864:=by omega
 have g2:vM l<=vN l:=by omega
 obtain⟨F,hF⟩:∃F:Ez->Prop,F=fun w'=>Mem w w' [(b,vecO 295 (.slice (some ⟨g,off,none⟩) l.length c) (vN l) (vM l))]:=⟨_,rfl⟩
 obtain⟨w3,hw3⟩:∃w3:Ez,w3=w9.drew:=⟨_,rfl⟩
 rw[<-hw3]at hm|-;refine DrawV.inv (fun S w'=>Sto w3.drew F (S 4) (S 8) (S 9) (S 12) w') rfl Jk Sto.start (zw ?_);(iterate 4 (refine zi ?_));refine StepI.of (ii (vN l)) (fun S wd hk hp hI=>?_) (zw ?_)
 ·dsimp only at hI;rw[hk]at hI;(conv=>whnf);refine LoadV.mem (hm.drew.call (hI.a hI.z4)) (i:=0) rfl rfl (zw ?_);exact⟨rfl,hI.of hI.z4 xr⟩
 (iterate 3 (refine zi ?_));refine StepI.of (ii (vM l)) (fun S wd hk hp hI=>?_) (zw ?_)
 ·dsimp only at hI;rw[hk]at hI;(conv=>whnf);refine LoadV.mem (hm.drew.call (hI.a hI.z8)) (i:=0) rfl rfl (zw ?_);exact⟨rfl,hI.of hI.z8 xr⟩
 refine StepI.of (.agg (cutV (vN l) (vM l)).toArray) (fun S wd hk hp hI=>?_) (zw ?_)
 ·dsimp only at hI;rw[hk]at hI;(conv=>whnf);refine zcv (qz1 (vN l) (vM l) wd Oo Oo) ?_;rintro v w9 ⟨rfl,h9⟩;exact⟨rfl,hI.of hI.z9 h9⟩
 refine zi ?_;refine zi ?_;refine StepI.of undef (fun S wd hk hp hI=>?_) (zw ?_)
 ·dsimp only at hI;have h4:S 4=true:=hp 4 Od;have h8':S 8=true:=hp 8 Od;have h9:S 9=true:=hp 9 Od;rw[hk]at hI;(conv=>whnf);refine StoreA.mem (hm.drew.call (hI.a rfl)) (i:=0) rfl (show 3+5<=8 by decide) (by intro v hv;simp[cutV]at hv;rcases hv with rfl|rfl|rfl|rfl|rfl<;>rfl) fun wx hmx=>zw ?_;exact⟨rfl,fun h=>(by cases h),fun _=>⟨by rw[hF];exact hmx,h4,h8',h9⟩⟩
 intro w11 hI;have hm:=(hI.f rfl).1;rw[hF]at hm;(conv=>whnf);refine zr hm 0 ?_;refine zC (fun _=>zw ?_) (fun _=>zw ?_)
 ·refine zcv (qd2 l.length 10 w11) ?_;rintro v w10 ⟨⟨b1,rfl,h9⟩,he10⟩;(conv=>whnf);refine⟨.inl ⟨?_,_,_,_,.inl ⟨rfl,b1,rfl,h9⟩⟩,hm.ext.trans he10⟩;rw[vOk,Az Oo,Az Oo,Az Oo,AH Oo];rfl
 refine zy ?_;have hm:=hm.drew;refine zt ?_;refine LoadV.mem (i:=0) Oa rfl rfl (zw ?_);refine zt ?_;refine⟨?_,hm.ext⟩;have hb':w.heap.size<=b:=(hm.own _ mh).1;have hv:vOk l=decide (l.length=qch (vN l) (vM l)):=by
  rw[vOk,Az Oo,Az Oo,Az Oo];rfl
 by_cases e:l.length=qch (vN l) (vM l)
 ·refine .inr ⟨by rw[hv,Az e],b,?_,hb',hm.get mh⟩;rw[Az Oo]
 ·refine .inl ⟨by rw[hv,AH e],.pointer none,0,0,.inr ⟨b,?_,hb',hm.get mh,g1,g2⟩⟩;rw[AH Oo]
def VecR(l:LB)(s:E8)(v:E8)(w0 w:Ez):Prop:=
 (vOk l=false/\∃e p c,v=.tuple #[.pointer none,e]/\ErrAt w e p c)\/
 (vOk l=true/\∃b,v=.tuple #[pp b,.nilIface]/\w0.heap.size<=b/\w.heap[b]?=some (vecO 295 s (vN l) (vM l)))
theorem q34(l:LB)(A:oA)(c:Nat)(w:Ez)(hS:SlAt encB 1 w A l)(hc:l.length<=c)(hl:l.length<=140737488355328):
  Gv EG 140 [.slice A l.length c] w fun v w'=>VecR l (.slice A l.length c) v w w'/\Ext w w':=by
 have hsh:=q29 l A c w hS hc hl;refine ze Tryz.func140 Tryz.ntmps140 ?_;refine zcv (hsh) ?_;rintro v w1 ⟨h,he⟩
 rcases h with⟨h0,e,p,q,⟨rfl,b,rfl,hE⟩|⟨b,rfl,hb,ho,g1,g2⟩⟩|⟨h1,b,rfl,hb,ho⟩
 ·refine zu ?_;refine⟨.inl ⟨h0,_,_,_,rfl,b,rfl,hE⟩,he⟩
 ·refine zu ?_;refine LoadV.own ho rfl (zw ?_);refine zcv (qd2 _ 13 w1) ?_;rintro v w10 ⟨⟨b1,rfl,h9⟩,he10⟩;(conv=>whnf);exact⟨.inl ⟨h0,_,_,_,rfl,b1,rfl,h9⟩,he.trans he10⟩
 ·refine zu ?_;exact⟨.inr ⟨h1,b,rfl,hb,ho⟩,he⟩
theorem qgf{n:Nat}(h:n<256):InR .u8 (n:Int):=⟨by omega,by omega⟩
def qgu(n:Nat):Nat:=n%2+n/2%2+n/4%2+n/8%2+n/16%2+n/32%2+n/64%2+n/128%2
def qbd(l:LB):Nat->Nat->Nat
 | _,0=>0
 | a,k+1=>qbd l a k+qgu (l.getD (a+k) 0).toNat
def qel(l:LB)(i:Nat):Nat:=
 if i=0\/vN l=0 then 0 else if vN l<=i then vM l else
  min (leN ((l.drop (qaa (vN l)+4*(i/2048))).take 4)+leN ((l.drop (qbi (vN l)+2*(i/256))).take 2)+qbd l (8+i/256*32) (i%256/8)+qgu ((l.getD (8+i/8) 0).toNat%2 ^ (i%8))) i
def bitN(d:LB)(i:Nat):Nat:=(d.getD (i/8) 0).toNat/2 ^ (i%8)%2
def cnt(d:LB):Nat->Nat
 | 0=>0
 | n+1=>cnt d n+bitN d n
theorem qib(d:LB)(i:Nat):bitN d i<=1:=by unfold bitN;omega
theorem qmu(d:LB)(n:Nat):cnt d n<=n:=by
 induction n with
 | zero=>exact Aq _
 | succ n ih=>have:=qib d n;simp only[cnt];omega
theorem qj9{d:LB}{a:Nat}(h:a<=b):cnt d a<=cnt d b:=by
 induction h with
 | refl=>exact Aq _
 | step _ ih=>simp only[cnt];omega
theorem qx8:∀x,x<256->∀r,r<8->qgu (x%2 ^ (r+1))=qgu (x%2 ^ r)+x/2 ^ r%2:=by decide +kernel
theorem q7x(d:LB)(a r:Nat)(hr:r<=8):cnt d (8*a+r)=cnt d (8*a)+qgu ((d.getD a 0).toNat%2 ^ r):=by
 induction r with
 | zero=>rw[Nat.pow_zero,Nat.mod_one,BH];rfl
 | succ r ih=>
  rw[<-C7,cnt,ih Oo,qx8 _ (qa1 _) r Oo,bitN];have e1:(8*a+r)/8=a:=by omega
  have e2:(8*a+r)%8=r:=by omega
  rw[e1,e2];omega
theorem q4w(d:LB)(a k:Nat):cnt d (8*(a+k))=cnt d (8*a)+qbd d a k:=by
 induction k with
 | zero=>rfl
 | succ k ih=>
  have e:8*(a+(k+1))=8*(a+k)+8:=by omega
  rw[e,q7x d (a+k) 8 Oo,ih,qbd];have h:=qa1 (d.getD (a+k) 0);rw[show(2:Nat) ^ 8=256 by decide,BD h];omega
theorem qe5{α:Type}(l:List α)(a i:Nat)(x:α):(l.drop a).getD i x=l.getD (a+i) x:=by
 rw[Ag,Ag,Cr]
theorem q0s{α:Type}(l:List α)(a i:Nat)(x:α)(h:i<a):(l.take a).getD i x=l.getD i x:=by
 rw[Ag,Ag,Bc,Ad h]
theorem qpa(l:LB)(b a k:Nat):qbd (l.drop b) a k=qbd l (b+a) k:=by
 induction k with
 | zero=>rfl
 | succ k ih=>rw[qbd,qbd,ih,qe5,C7]
theorem qzr(l:LB)(a t:Nat):bitN (l.drop a) t=bitN l (8*a+t):=by
 rw[bitN,bitN,qe5];have e1:(8*a+t)/8=a+t/8:=by omega
 have e2:(8*a+t)%8=t%8:=by omega
 rw[e1,e2]
theorem qkq(l:LB)(a t:Nat)(h:t<8*a):bitN (l.take a) t=bitN l t:=by
 rw[bitN,bitN,q0s _ _ _ _ Oo]
theorem qvg(l:LB)(a:Nat):∀n,n<=8*a->cnt (l.take a) n=cnt l n
 | 0,_=>rfl
 | n+1,h=>by rw[cnt,cnt,qvg l a n Oo,qkq _ _ _ Oo]
structure VecOk(l:LB):Prop where
 ok:vOk l=true
 great:∀j,j<upN (vN l) 2048->leN ((l.drop (qaa (vN l)+4*j)).take 4)=cnt (l.drop 8) (2048*j)
 small:∀j,j<upN (vN l) 256->leN ((l.drop (qbi (vN l)+2*j)).take 2)=cnt (l.drop 8) (256*j)-cnt (l.drop 8) (2048*(j/8))
 ones:cnt (l.drop 8) (vN l)=vM l
theorem VecOk.rank(h:VecOk l)(i:Nat)(hi:i<=vN l):qel l i=cnt (l.drop 8) i:=by
 rw[qel]
 by_cases h0:i=0\/vN l=0
 ·rw[Ad h0];obtain rfl:i=0:=by omega
  rfl
 rw[Aa h0]
 by_cases h1:vN l<=i
 ·rw[Ad h1];obtain rfl:i=vN l:=by omega
  exact h.ones.symm
 rw[Aa h1];have k1:i/2048<upN (vN l) 2048:=by unfold upN;omega
 have k2:i/256<upN (vN l) 256:=by unfold upN;omega
 rw[h.great _ k1,h.small _ k2,<-qpa,<-qe5];have e8:i/256/8=i/2048:=by omega
 rw[e8];have m1:cnt (l.drop 8) (2048*(i/2048))<=cnt (l.drop 8) (256*(i/256)):=qj9 Oo;have f1:=q4w (l.drop 8) (i/256*32) (i%256/8);have f2:=q7x (l.drop 8) (i/8) (i%8) Oo;have q1:8*(i/256*32+i%256/8)=8*(i/8):=by omega
 have q2:8*(i/256*32)=256*(i/256):=by omega
 have q3:8*(i/8)+i%8=i:=by omega
 rw[q1,q2]at f1;rw[q3]at f2;have hle:=qmu (l.drop 8) i;omega
theorem q1k:∀(l:LB) (t:Nat),leN l/2 ^ t%2=bitN l t
 | [],t=>by simp[leN,bitN]
 | x::l,t=>by
  have hx:=qa1 x
  rcases AX t 8 with ht|ht
  ·have e1:t/8=0:=by omega
   have e2:t%8=t:=by omega
   rw[bitN,e1,e2,leN];simp only[List.getD_cons_zero];obtain rfl|rfl|rfl|rfl|rfl|rfl|rfl|rfl:t=0\/t=1\/t=2\/t=3\/t=4\/t=5\/t=6\/t=7:=by omega
   all_goals(simp only[Nat.reducePow];omega)
  ·obtain⟨u,rfl⟩:∃u,t=8+u:=⟨t-8,by omega⟩
   rw[leN,Ep,<-Nat.div_div_eq_div_mul];have e:(x.toNat+256*leN l)/2 ^ 8=leN l:=by simp only[Nat.reducePow];omega
   rw[e,q1k l u,bitN,bitN];have e1:(8+u)/8=u/8+1:=by omega
   have e2:(8+u)%8=u%8:=by omega
   rw[e1,e2,List.getD_cons_succ]
def valB(p:LB)(f:Nat):Nat->Nat
 | 0=>0
 | k+1=>valB p f k+bitN p (f+k)*2 ^ k
theorem quk(p:LB)(f k:Nat):valB p f k<2 ^ k:=by
 induction k with
 | zero=>simp[valB]
 | succ k ih=>
  have:=qib p (f+k);have h2:bitN p (f+k)*2 ^ k<=1*2 ^ k:=BI _ this;rw[valB,DI];omega
theorem quj(p:LB)(f k:Nat)(h:k<=m):valB p f k<2 ^ m:=Bw (quk p f k) (Bs Od h)
def numP(p:LB)(w i:Nat):Nat:=leN ((p.drop (i*w/8)).take 4)/2 ^ (i*w%8)%2 ^ w
theorem qaaz(p:LB)(w i:Nat):numP p w i<2 ^ w:=CV _ (Nat.two_pow_pos w)
theorem qwe(p:LB)(w i:Nat)(hw:w<=24):numP p w i=valB p (i*w) w:=by
 have key:∀k,k<=w->leN ((p.drop (i*w/8)).take 4)/2 ^ (i*w%8)%2 ^ k=valB p (i*w) k:=by
  intro k
  induction k with
  | zero=>intro _;simp[valB,Nat.mod_one]
  | succ k ih=>
   intro hk;rw[Nat.mod_pow_succ,ih Oo,valB,Nat.div_div_eq_div_mul,<-Ep,q1k,qkq _ _ _ Oo,qzr];have e:8*(i*w/8)+(i*w%8+k)=i*w+k:=by omega
   rw[e,CD (2 ^ k)]
 exact key w znr
def errF(f:Nat->Nat×Nat):Nat->Nat×Nat
 | 0=>(0,0)
 | k+1=>if(errF f k).2≠0 then errF f k else f k
theorem qaf{f:Nat->Nat×Nat}{n:Nat}(h:∀k,k<n->(f k).2=0):(errF f n).2=0:=by
 induction n with
 | zero=>rfl
 | succ n ih=>
  have:=ih fun k hk=>h k Oo
  rw[errF,Aa Oo];exact h n Oo
theorem qcj{f:Nat->Nat×Nat}{n:Nat}(h:∀j,j<k->(f j).2=0)(hk:k<n)(he:(f k).2≠0):errF f n=f k:=by
 induction n with
 | zero=>omega
 | succ n ih=>
  by_cases hn:k=n
  ·subst hn;rw[errF,Aa (by rw[qaf h];simp)]
  ·rw[errF,ih Oo,Ad he]
theorem qed{f:Nat->Nat×Nat}{n:Nat}(h:(errF f n).2=0):∀k,k<n->(f k).2=0:=by
 induction n with
 | zero=>intro k hk;omega
 | succ n ih=>
  rw[errF]at h
  split at h
  ·rename_i h0;exact absurd h h0
  ·rename_i h0
   intro k hk
   by_cases hn:k=n
   ·subst hn;exact h
   ·exact ih Oo k Oo
def vAt(l:LB):Nat->Nat
 | 0=>0
 | k+1=>vAt l k+(numL (l.drop (vAt l k))).2.1
def vNum(l:LB)(k:Nat):Nat:=(numL (l.drop (vAt l k))).1
def numE(l:LB)(k most:Nat):Nat×Nat:=
 if(numL (l.drop (vAt l k))).2.2≠0 then(vAt l k,(numL (l.drop (vAt l k))).2.2)else if most<vNum l k then(vAt l k,2)else(0,0)
theorem qh9(l:LB)(k:Nat):vAt l k<=l.length:=by
 induction k with
 | zero=>exact Am _
 | succ k ih=>
  have:=(qbp (l.drop (vAt l k))).2.1;rw[zld]at this;rw[vAt];omega
theorem qui(l:LB)(k:Nat):vNum l k<18446744073709551616:=(qbp (l.drop (vAt l k))).1
theorem quq(h:(numL (l.drop (vAt l k))).2.2=0):varS l (vAt l k) 0=(vNum l k,vAt l (k+1),0):=by
 rw[varS,Aa Js,Aa Oo];rfl
theorem qup(h:(numL (l.drop (vAt l k))).2.2≠0):varS l (vAt l k) 0=(0,vAt l k,(numL (l.drop (vAt l k))).2.2):=by
 rw[varS,Aa Js,Ad h]
section
variable {l:LB} {k:Nat}
theorem qp4(h:(numL (l.drop (vAt l k))).2.2=0):(varS l (vAt l k) 0).1=vNum l k:=by rw[quq h]
theorem qp5(h:(numL (l.drop (vAt l k))).2.2=0):(varS l (vAt l k) 0).2.1=vAt l (k+1):=by rw[quq h]
theorem qp6(h:(numL (l.drop (vAt l k))).2.2=0):(varS l (vAt l k) 0).2.2=0:=by rw[quq h]
theorem qp1(h:(numL (l.drop (vAt l k))).2.2≠0):(varS l (vAt l k) 0).1=0:=by rw[qup h]
theorem qp2(h:(numL (l.drop (vAt l k))).2.2≠0):(varS l (vAt l k) 0).2.1=vAt l k:=by rw[qup h]
theorem qp3(h:(numL (l.drop (vAt l k))).2.2≠0):(varS l (vAt l k) 0).2.2=(numL (l.drop (vAt l k))).2.2:=by rw[qup h]
theorem qun{a:Nat}(h:(numL (l.drop a)).2.2=0):(varS l a 0).1=(numL (l.drop a)).1/\(varS l a 0).2.1=a+(numL (l.drop a)).2.1/\(varS l a 0).2.2=0:=by
 rw[varS,Aa Js,Aa Oo];exact⟨rfl,rfl,rfl⟩
theorem qum{a:Nat}(h:(numL (l.drop a)).2.2≠0):(varS l a 0).1=0/\(varS l a 0).2.1=a/\(varS l a 0).2.2=(numL (l.drop a)).2.2:=by
 rw[varS,Aa Js,Ad h];exact⟨rfl,rfl,rfl⟩
theorem qcw(h1:(numL (l.drop (vAt l k))).2.2=0)(h2:vNum l k<=most):numE l k most=(0,0):=by rw[numE,Aa Oo,Aa Oo]
theorem qaay(h1:(numL (l.drop (vAt l k))).2.2=0)(h:(numE l k most).2=0):vNum l k<=most:=by
 rw[numE,Aa Oo]at h
 split at h
 ·cases h
 ·omega
theorem qo8(h1:(numL (l.drop (vAt l k))).2.2≠0):numE l k most=(vAt l k,(numL (l.drop (vAt l k))).2.2):=by rw[numE,Ad h1]
theorem qle(h1:(numL (l.drop (vAt l k))).2.2=0)(h2:most<vNum l k):numE l k most=(vAt l k,2):=by rw[numE,Aa Oo,Ad h2]
end
def qao(n:Nat):Nat:=Go.Lib.bitLen n
def dhF(m:LB)(k:Nat):Nat×Nat:=numE m k (if k=0 then 4194304 else 67108864)
def dN(m:LB):Nat:=vNum m 0
def qxl(m:LB):Nat:=vNum m 1
def dW(m:LB):Nat:=qao (qxl m)
def qcq(m:LB):Nat:=vAt m 2
def qx(m:LB):Nat:=qcq m+(upN (dN m) 16*dW m+7)/8
def dEnd(m:LB):Nat:=qx m+qxl m
def dE(m:LB):Nat×Nat:=
 if(errF (dhF m) 2).2≠0 then errF (dhF m) 2 else if m.length<dEnd m then(m.length,10)else if dEnd m<m.length then(dEnd m,13)else(0,0)
def qag(m:LB):LB:=(m.drop (qcq m)).take (qx m-qcq m)
def qe(m:LB):LB:=m.drop (qx m)
def entG(m:LB)(first:Bool)(ahead:LB):LB×Nat×Nat:=
 let s:Nat×Nat×Nat:=if first then(0,0,0)else numL m
 if s.2.2≠0 then([],0,s.2.2)else
  let t:=numL (m.drop s.2.1)
  if t.2.2≠0 then([],0,t.2.2)else if ahead.length<s.1 then([],0,161)else if 262144<t.1\/262144<s.1+t.1 then([],0,2)
  else if m.length-s.2.1-t.2.1<t.1 then([],0,10)else(ahead.take s.1++(m.drop (s.2.1+t.2.1)).take t.1,s.2.1+t.2.1+t.1,0)
def qcs(E:LB)(p:Nat)(first:Bool)(ahead:LB):LB×Nat×Nat:=
 if E.length<p then([],0,10)else if(entG (E.drop p) first ahead).2.2≠0 then([],0,(entG (E.drop p) first ahead).2.2)else
  ((entG (E.drop p) first ahead).1,p+(entG (E.drop p) first ahead).2.1,0)
def blk(E:LB)(p:Nat):Nat->LB×Nat×Nat
 | 0=>qcs E p true []
 | j+1=>if(blk E p j).2.2≠0 then blk E p j else qcs E (blk E p j).2.1 false (blk E p j).1
def q9(m:LB)(k:Nat):Nat:=valB (qag m) (k*dW m) (dW m)
def dGet(m:LB)(i:Nat):Option LB:=
 if i<dN m then(if(blk (qe m) (q9 m (i/16)) (i%16)).2.2=0 then some (blk (qe m) (q9 m (i/16)) (i%16)).1 else none)else none
theorem qgg{m:LB}{first:Bool}(h:(entG m first ahead).2.2=0):(entG m first ahead).1.length<=262144/\(entG m first ahead).2.1<=m.length:=by
 unfold entG at h|-;have hb1:=qbp m;obtain⟨s,hs⟩:∃s:Nat×Nat×Nat,s=if first then(0,0,0)else numL m:=⟨_,rfl⟩
 rw[<-hs]at h|-;have hs2:s.2.1<=m.length:=by rw[hs];split;exact Am _;exact hb1.2.1
 have hb2:=qbp (m.drop s.2.1);rw[zld]at hb2;dsimp only at h|-
 split at h
 ·rename_i h0;exact absurd h h0
 rename_i g0
 rw[Aa g0]
 split at h
 ·rename_i h0;exact absurd h h0
 rename_i g1
 rw[Aa g1]
 split at h
 ·cases h
 rename_i g2
 rw[Aa g2]
 split at h
 ·cases h
 rename_i g3
 rw[Aa g3]
 split at h
 ·cases h
 rename_i g4
 rw[Aa g4];refine⟨?_,?_⟩
 ·simp only[zla,AG,zld];omega
 ·simp only;omega
theorem qvs{E:LB}{p:Nat}{first:Bool}(h:(qcs E p first ahead).2.2=0):(qcs E p first ahead).1.length<=262144/\(qcs E p first ahead).2.1<=E.length:=by
 unfold qcs at h|-
 split at h
 ·cases h
 rename_i g0
 rw[Aa g0]
 split at h
 ·rename_i g1;exact absurd h g1
 rename_i g1
 rw[Aa g1];have:=qgg (show(entG (E.drop p) first ahead).2.2=0 by omega);rw[zld]at this;exact⟨this.1,by simp only;omega⟩
theorem q7r{E:LB}{p:Nat}:∀{j:Nat},(blk E p j).2.2=0->(blk E p j).1.length<=262144/\(blk E p j).2.1<=E.length
 | 0,h=>qvs h
 | j+1,h=>by
  unfold blk at h|-
  split at h
  ·rename_i g;exact absurd h g
  rename_i g
  rw[Aa g];exact qvs h
theorem q4n{E:LB}{p:Nat}(h:(blk E p j).2.2≠0):∀{i:Nat},j<=i->blk E p i=blk E p j:=by
 intro i hi
 induction hi with
 | refl=>rfl
 | step _ ih=>rw[blk,ih,Ad h]
theorem qvh{m:LB}{s:LB}(h:dGet m i=some s):s.length<=262144:=by
 unfold dGet at h
 split at h
 ·split at h
  ·rename_i h0
   cases h;exact(q7r h0).1
  ·cases h
 ·cases h
def vsF(l:LB)(k:Nat):Nat×Nat:=numE l k 67108864
def qo(l:LB):Nat->Nat
 | 0=>vAt l 3
 | k+1=>qo l k+vNum l k
def sE(l:LB):Nat×Nat:=
 if(errF (vsF l) 3).2≠0 then errF (vsF l) 3 else if l.length<qo l 3 then(l.length,10)else if qo l 3<l.length then(qo l 3,13)else(0,0)
def sDict(l:LB)(k:Nat):LB:=(l.drop (qo l k)).take (vNum l k)
def sdF(l:LB)(k:Nat):Nat×Nat:=if(dE (sDict l k)).2=0 then(0,0)else(qo l k+(dE (sDict l k)).1,(dE (sDict l k)).2)
def wE(l:LB):Nat×Nat:=if(sE l).2≠0 then sE l else errF (sdF l) 3
def vTot(l:LB):Nat->Nat
 | 0=>0
 | k+1=>vTot l k+dN (sDict l k)
def qdw(l:LB)(id:Nat):Nat:=if vTot l 2<id then 2 else if vTot l 1<id then 1 else 0
def tcF(l:LB)(k:Nat):Nat×Nat:=
 if(numE l k 1048576).2≠0 then numE l k 1048576 else if 0<k/\(vNum l k<vNum l (k-1)\/¬(vNum l (k-1)=0↔vNum l k=0))then(vAt l k,180)else(0,0)
def tvAt(l:LB):Nat->Nat
 | 0=>vAt l 4
 | k+1=>tvAt l k+1+(vNum l k*(l.getD (tvAt l k) 0).toNat+7)/8+(if k=0 then 0 else qch (vNum l k) (vNum l (k-1)))
def tw(l:LB)(k:Nat):Nat:=(l.getD (tvAt l k) 0).toNat
def tEnd(l:LB)(k:Nat):Nat:=tvAt l k+1+(vNum l k*tw l k+7)/8
def tvF(l:LB)(k:Nat):Nat×Nat:=if l.length<=tvAt l k then(l.length,10)else if 23<tw l k then(tvAt l k,14)else if l.length<tvAt l (k+1)then(l.length,10)else(0,0)
def tE(l:LB):Nat×Nat:=
 if(errF (tcF l) 4).2≠0 then errF (tcF l) 4 else if(errF (tvF l) 4).2≠0 then errF (tvF l) 4 else if tvAt l 4<l.length then(tvAt l 4,13)else(0,0)
def qv(l:LB)(k:Nat):LB:=(l.drop (tvAt l k+1)).take (tEnd l k-(tvAt l k+1))
def qg(l:LB)(k:Nat):LB:=(l.drop (tEnd l k)).take (tvAt l (k+1)-tEnd l k)
def tVec(l:LB)(k:Nat):Bool:=vOk (qg l k)&&decide (vN (qg l k)=vNum l k)&&decide (vM (qg l k)=vNum l (k-1))
def tUp(l:LB)(i:Nat):Nat->Nat
 | 0=>i
 | j+1=>qel (qg l (3-j)) (tUp l i j)
def qe2(l:LB)(i j:Nat):Bool:=decide (tUp l i j<vNum l (3-j))&&(decide (j=3)||tVec l (3-j))
def tNum(l:LB)(i k:Nat):Nat:=numP (qv l k) (tw l k) (tUp l i (3-k))
def tOk(l:LB)(i:Nat):Bool:=qe2 l i 0&&qe2 l i 1&&qe2 l i 2&&qe2 l i 3
theorem qd6(l:LB)(k:Nat):tvAt l (k+1)=tEnd l k+(if k=0 then 0 else qch (vNum l k) (vNum l (k-1))):=rfl
def qq(l:LB):LB:=(l.drop 28).take (hN l 4)
def q7(l:LB):LB:=(l.drop (32+hN l 4)).take (hN l 5)
def packE(l:LB):Nat×Nat:=
 if(qas l).2≠0 then qas l else if(wE (qq l)).2≠0 then(28+(wE (qq l)).1,(wE (qq l)).2)
 else if(tE (q7 l)).2≠0 then(32+hN l 4+(tE (q7 l)).1,(tE (q7 l)).2)else(0,0)
theorem q1o(x:Nat)(w:Ez)(hx:x<18446744073709551616):Gv EG 165 [.int .u64 x] w fun r w'=>r=ii (qao x)/\w'=w:=
 qxu Jk (Tryz.bits_Len64 x w Oo Oo)
theorem q37(x:Nat)(w:Ez)(hx:x<18446744073709551616):Gv EG 105 [.int .u64 x] w fun r w'=>r=ii (qao x)/\w'=w:=by
 refine ze Tryz.func105 Tryz.ntmps105 ?_;refine zcv (q1o x w hx) ?_;rintro r w1 ⟨rfl,rfl⟩;(conv=>whnf);exact⟨rfl,rfl⟩
theorem qjh(x:Nat)(h0:x≠0)(h:x<18446744073709551616):qao x=1+qao (x/2):=Go.Lib.bitLen_half x h0 (by simpa using h)
theorem qgb:qao 0=0:=by decide
theorem qc5:∀(k x:Nat),x<2 ^ k->k<=64->qao x<=k
 | 0,x,h,_=>by
  obtain rfl:x=0:=by simpa using h
  rw[qgb];exact Aq _
 | k+1,x,h,hk=>by
  by_cases h0:x=0
  ·subst h0;rw[qgb];exact Am _
  ·have hp:(2:Nat) ^ (k+1)<=2 ^ 64:=Bs Od hk;rw[qjh x h0 (Bw h hp)];have:=qc5 k (x/2) (by rw[DI]at h;omega) Oo;omega
theorem qmp(n:Nat)(w:Ez)(hn:n<=4194304):Gv EG 218 [ii n] w fun r w'=>r=ii (upN n 16)/\w'=w:=by
 refine ze Tryz.func218 Tryz.ntmps218 ?_;refine zv ?_;exact⟨Af (Value.int .i64) (by unfold upN;omega),rfl⟩
structure DictAt(w:Ez)(b:Nat)(m:LB):Prop where
 h:∃P cp E ce,w.heap[b]?=some (.cells #[ii (dN m),ii (dW m),.slice P (qag m).length cp,.slice E (qe m).length ce] 317)/\SlAt encB 1 w P (qag m)/\SlAt encB 1 w E (qe m)/\(qe m).length<=ce
 n:dN m<=4194304
 size:qxl m<=67108864
 qd0:(qag m).length=(upN (dN m) 16*dW m+7)/8
 entries:(qe m).length=qxl m
theorem DictAt.ext{m:LB}(h:DictAt w b m)(he:Ext w w'):DictAt w' b m:=by
 obtain⟨⟨P,cp,E,ce,h1,h2,h3,h4⟩,h5,h6,h7,h8⟩:=h;exact⟨⟨P,cp,E,ce,he.get h1,h2.ext he,h3.ext he,h4⟩,h5,h6,h7,h8⟩
theorem DictAt.width{m:LB}(h:DictAt w b m):dW m<=27:=qc5 27 _ (by have:=h.size;simp only[Nat.reducePow];omega) Od
theorem qvn(b:Nat)(m:LB)(w:Ez)(h:DictAt w b m):Gv EG 158 [pp b] w fun r w'=>r=ii (dN m)/\w'=w:=by
 obtain⟨⟨P,cp,E,ce,h1,h2,h3,h4⟩,h5,h6,h7,h8⟩:=h;refine ze Tryz.func158 Tryz.ntmps158 ?_;refine LoadV.own h1 rfl (zw ?_);exact⟨rfl,rfl⟩
theorem qrn(b:Nat)(m:LB)(k:Nat)(w:Ez)(h:DictAt w b m)(hk:k<upN (dN m) 16):Gv EG 277 [pp b,ii k] w fun r w'=>r=ii (q9 m k)/\w'=w:=by
 have hW:=h.width;obtain⟨⟨P,cp,E,ce,h1,h2,h3,h4⟩,h5,h6,h7,h8⟩:=h;have hub:upN (dN m) 16<=4194304:=AU (qb9 _ _ Od) h5;obtain⟨W,eW⟩:∃W,W=dW m:=⟨_,rfl⟩
 rw[q9];rw[<-eW]at h1 h7 hW|-;have hm1:k*W+W<=upN (dN m) 16*W:=by rw[<-CW];exact BI _ hk
 have hm2:upN (dN m) 16*W<=4194304*27:=BT hub hW;obtain⟨f,ef⟩:∃f,f=k*W:=⟨_,rfl⟩
 have efi:(k:Int)*(W:Int)=(f:Int):=by rw[ef,Dr]
 rw[<-ef]at hm1|-;refine ze Tryz.func277 Tryz.ntmps277 ?_;refine LoadV.own h1 rfl (zw ?_);refine qj (fun i:Nat=>[(0,pp b),(1,ii k),(5,ii (valB (qag m) f i)),(11,ii W),(12,ii i)]) (fun i w'=>i<=W/\w'=w) (fun i=>W-i) 0 fq ⟨Am _,rfl⟩ ?_;rintro i w1 ρ' ⟨i1,rfl⟩;have hv:=quk (qag m) f i;have hv2:valB (qag m) f i<2 ^ 27:=quj _ _ _ Oo;simp only[Nat.reducePow]at hv2;(conv=>whnf);refine zC (fun _=>zw ?_) (fun _=>zw ?_)
 ·refine LoadV.own h1 rfl (zw ?_);rw[efi];refine zv ?_;refine LoadV.own h1 rfl (zu ?_);have hj:(f+i)/8<(qag m).length:=by omega
  refine ElemV.bs h2 rfl ((f+i)/8) Oo hj ?_;intro eb eo hc;(conv=>whnf);refine LoadV.of hc (zu ?_);refine V.Wit.shrN ((f+i)%8) Oo (by show(f+i)%8<8;omega) (zw ?_);have hlt:=qa1 (qag m)[(f+i)/8];have hlt2:(qag m)[(f+i)/8].toNat/2 ^ ((f+i)%8)<256:=Ca (DA _ _) hlt;refine Wit.eq (qbb (k:=.u8) (m:=(qag m)[(f+i)/8].toNat/2 ^ ((f+i)%8)) 1 rfl (qgf hlt2) ⟨by omega,by omega⟩) (zu ?_);have hb:(qag m)[(f+i)/8].toNat/2 ^ ((f+i)%8)%2 ^ 1=bitN (qag m) (f+i):=by
   rw[bitN,Ag,zge hj];rfl
  rw[hb];have hvs:=quk (qag m) f (i+1);have hvs2:valB (qag m) f (i+1)<2 ^ 27:=quj _ _ _ Oo;simp only[Nat.reducePow]at hvs2;rw[valB]at hvs2;refine V.Wit.shlN i Oo (by show i<64;omega) (qbj Oo) (zw ?_);refine Wit.eq (qc2 i (qbj Oo) hv) (zu ?_);exact⟨i+1,fq,⟨by omega,rfl⟩,by omega⟩
 ·obtain rfl:i=W:=by omega
  exact⟨rfl,rfl⟩
namespace V
theorem SliceV.to{size:Nat}{n:Nat}{lo hi:Option E8}{K:E8->Prop}(a b m:Nat)(h1:bnd lo 0 a)(h2:bnd hi n b)(h3:bnd mx c m)(hab:a<=b)(hbm:b<=m)(hm:m<=c)(hs:mx.isSome=true->hi.isSome=true)(hk:K (.slice (if m=a then A else A.map (·.add (a*size))) (b-a) (m-a))):SliceV size A n c lo hi mx K:=
 ⟨a,b,m,h1,h2,h3,hab,hbm,hm,hs,fun A' e=>by rw[e];exact hk⟩
end V
def hdL(m:LB)(k:Nat):EE:=[ii (if 0<k then vNum m 0 else 0:Nat),ii (if 1<k then vNum m 1 else 0:Nat)]
def DShR(m:LB)(v:E8)(w0 w:Ez):Prop:=
 ((dE m).2≠0/\∃e,v=.tuple #[.pointer none,ii 0,ii 0,e]/\ErrAt w e (dE m).1 (dE m).2)\/
 ((dE m).2=0/\∃b,v=.tuple #[pp b,ii (qcq m),ii (qx m),.nilIface]/\w0.heap.size<=b/\DictAt w b m)
theorem qxm(m:LB)(A:oA)(c:Nat)(w:Ez)(hS:SlAt encB 1 w A m)(hc:m.length<=c)(hl:m.length<=140737488355328):
  Gv EG 159 [.slice A m.length c] w fun v w'=>DShR m v w w'/\Ext w w':=by
 have hv0:BS w (.slice A m.length c) m:=⟨A,c,rfl,hc,hS⟩
 refine ze Tryz.func159 Tryz.ntmps159 ?_;refine zcv (qem _ m w hv0) ?_;rintro v w1 ⟨cb,rfl,hcb,hco,he1⟩;have hm:Mem w w1 [(cb,curO 288 (.slice A m.length c) (vAt m 0) 0)]:=(Mem.nil w).fresh he1 hcb hco;(conv=>whnf);refine znm hm fun hd w2 hm=>zw ?_;refine qj (fun k:Nat=>[(0,.slice A m.length c),(2,.pointer none),(3,ii 0),(4,ii 0),(5,.nilIface),(6,pp cb),(7,pp hd),(16,.agg #[.int .u64 4194304,.int .u64 67108864]),(17,ii k)])
  (fun k w'=>k<=2/\(∀j,j<k->(numL (m.drop (vAt m j))).2.2=0/\vNum m j<=67108864/\(dhF m j).2=0)/\Mem w w' [(hd,.cells (hdL m k).toArray 318),(cb,curO 288 (.slice A m.length c) (vAt m k) 0)]) (fun k=>2-k) 0
  fq ⟨by omega,fun j hj=>by omega,hm⟩ ?_
 clear hm hco he1 hcb;rintro k w3 ρ' ⟨k1,hj,hm⟩;(conv=>whnf);refine zC (fun _=>zu ?_) (fun _=>zu ?_)
 ·have hv:BS w3 (.slice A m.length c) m:=hv0.ext hm.ext;have hle:=qh9 m k;have hlt:=qui m k;have hmost:∃mo:Nat,mo=(if k=0 then 4194304 else 67108864)/\(#[Value.int .u64 4194304,.int .u64 67108864]:EH).toList[k*tsz EG 125]?=some (.int .u64 mo):=by
   refine⟨_,rfl,?_⟩;rw[show tsz EG 125=1 from by kernel_rfl];obtain rfl|rfl:k=0\/k=1:=by omega
   all_goals rfl
  obtain⟨mo,emo,hmo⟩:=hmost;refine⟨_,hmo,?_⟩;(conv=>whnf);refine zcv (qjj cb _ (vAt m k) 0 w3 (hm.get (zmc mh))) ?_;rintro r w4 ⟨rfl,rfl⟩;(conv=>whnf);refine zcv (qc8 cb _ (vAt m k) 0 m _ (hm.get (zmc mh)) hv hle hl) ?_;rintro r w5 ⟨rfl,hu⟩
  by_cases he:(numL (m.drop (vAt m k))).2.2=0
  ·rw[qp5 he,qp6 he]at hu;rw[qp4 he];have hm:Mem w w5 [(hd,.cells (hdL m k).toArray 318),(cb,curO 288 (.slice A m.length c) (vAt m (k+1)) 0)]:=hm.upd (i:=1) rfl hu;(conv=>whnf);refine zcv (qcb cb _ _ 0 w5 (hm.get (zmc mh))) ?_;rintro r w6 ⟨rfl,rfl⟩;(conv=>whnf);refine zt ?_;refine zC (fun _=>zw ?_) (fun _=>zw ?_)
   ·refine zcv (qfv (vAt m k) 2 w6) ?_;rintro r w7 ⟨hE,he7⟩;have hdh:dhF m k=(vAt m k,2):=qle he (by rw[<-emo];omega);have hdE:dE m=(vAt m k,2):=by
     have:=qcj (f:=dhF m) (n:=2) (k:=k) (fun j h=>(hj j h).2.2) Oo (by rw[hdh];simp);rw[dE,this,hdh,Ad Js]
    obtain⟨eb,rfl,hec⟩:=hE;(conv=>whnf);refine⟨.inl ⟨by rw[hdE];simp,_,rfl,?_⟩,hm.ext.trans he7⟩;rw[hdE];exact⟨eb,rfl,hec⟩
   ·have hmo2:mo<=67108864:=by rw[emo];split<;>omega
    refine Wit.conv (qbj Oo) (zu ?_);have e2:0+k*tsz EG 3=k:=by rw[show tsz EG 3=1 from by kernel_rfl];omega
    refine StoreV.mem hm (i:=0) rfl (by rw[e2];simp[hdL];omega) rfl ?_;intro w8 hm;rw[e2]at hm;have hset:(hdL m k).toArray.setIfInBounds k (ii (vNum m k))=(hdL m (k+1)).toArray:=by
     obtain rfl|rfl:k=0\/k=1:=by omega
     all_goals rfl
    have hm:Mem w w8 [(hd,.cells (hdL m (k+1)).toArray 318),(cb,curO 288 (.slice A m.length c) (vAt m (k+1)) 0)]:=by rw[<-hset];exact hm
    refine zu ?_;refine⟨k+1,fq,⟨by omega,fun j hjk=>?_,hm⟩,by omega⟩
    by_cases ej:j=k
    ·subst ej;exact⟨he,by omega,by rw[dhF,qcw he (by rw[<-emo];omega)]⟩
    ·exact hj j Oo
  ·rw[qp2 he,qp3 he]at hu;rw[qp1 he];have hm:Mem w w5 [(hd,.cells (hdL m k).toArray 318),(cb,curO 288 (.slice A m.length c) (vAt m k) (numL (m.drop (vAt m k))).2.2)]:=hm.upd (i:=1) rfl hu;(conv=>whnf);refine zcv (qcb cb _ _ _ w5 (hm.get (zmc mh))) ?_;rintro r w6 ⟨rfl,rfl⟩;refine zu ?_;refine zcv (qfv (vAt m k) (numL (m.drop (vAt m k))).2.2 w6) ?_;rintro r w7 ⟨hE,he7⟩;have hdh:dhF m k=(vAt m k,(numL (m.drop (vAt m k))).2.2):=qo8 he;have hdE:dE m=(vAt m k,(numL (m.drop (vAt m k))).2.2):=by
    have:=qcj (f:=dhF m) (n:=2) (k:=k) (fun j h=>(hj j h).2.2) Oo (by rw[hdh];exact he);rw[dE,this,hdh,Ad he]
   obtain⟨eb,rfl,hec⟩:=hE;(conv=>whnf);refine⟨.inl ⟨by rw[hdE];exact he,_,rfl,?_⟩,hm.ext.trans he7⟩;rw[hdE];exact⟨eb,rfl,hec⟩
 ·obtain rfl:k=2:=by omega
  have hm:Mem w w3 [(hd,.cells #[ii (vNum m 0),ii (vNum m 1)] 318),(cb,curO 288 (.slice A m.length c) (vAt m 2) 0)]:=hm;obtain⟨f1,f2,f3⟩:=hj 0 Oo;obtain⟨g1,g2,g3⟩:=hj 1 Oo;have hn0:vNum m 0<=4194304:=qaay f1 f3;have hz:(errF (dhF m) 2).2=0:=qaf fun k hk=>by
   obtain rfl|rfl:k=0\/k=1:=by omega
   ·exact f3
   ·exact g3
  have hWb:dW m<=27:=qc5 27 _ (by show vNum m 1<_;simp only[Nat.reducePow];omega) Od;refine DrawV.free Jk Jk (zw ?_);refine zf ?_ (by intro wd hd;(conv=>whnf);refine zJ 0 ?_;(conv=>whnf);exact xq);refine zf ?_ (by intro wd hd;(conv=>whnf);refine LoadV.mem (Mem.call (Mem.drew hm) hd) (i:=0) rfl rfl ?_;(conv=>whnf);exact xq);refine zf ?_ (by intro wd hd;(conv=>whnf);refine zJ 1 ?_;(conv=>whnf);exact xq);refine zf ?_ (by intro wd hd;(conv=>whnf);refine LoadV.mem (Mem.call (Mem.drew hm) hd) (i:=0) rfl rfl ?_;(conv=>whnf);exact xq);refine zd ?_;apply zsd
  ·intro wd hd;(conv=>whnf);refine zcv (q37 (vNum m 1) wd Oo) ?_;rintro v w9 ⟨rfl,rfl⟩;exact xq
  (conv=>whnf);refine zd ?_;apply StepD.of (fun v wx=>∃b,v=pp b/\w3.drew.heap.size<=b/\wx.heap[b]?=some (.cells #[ii (dN m),ii (dW m),.slice none 0 0,.slice none 0 0] 317))
   (fun _ _ _ h he=>let⟨b,h1,h2,h3⟩:=h;⟨b,h1,h2,he.get h3⟩)
  ·intro wd hd;(conv=>whnf);refine⟨fun x wx hb hw=>?_⟩;subst hb hw;(conv=>whnf);exact⟨xr.alloc _,_,rfl,hd.size,heap_alloc_new _ _⟩
  (conv=>whnf);apply StepD.of (fun v wx=>∃b,v=pp b/\w3.drew.heap.size<=b/\wx.heap[b]?=some (.cells #[ii (dN m),ii (dW m),.slice none 0 0,.slice none 0 0] 317))
   (fun _ _ _ h he=>let⟨b,h1,h2,h3⟩:=h;⟨b,h1,h2,he.get h3⟩)
  ·intro wd hd;(conv=>whnf);rintro _ _;(conv=>whnf);rintro v ⟨b,rfl,h1,h2⟩;(conv=>whnf);exact⟨xr,b,rfl,h1,h2⟩
  (conv=>whnf);intro w9 he9;(conv=>whnf);rintro v ⟨b,rfl,hb,ho⟩;(conv=>whnf);intro _ _;(conv=>whnf);have hm:=hm.drew.fresh he9 hb ho;refine zcv (qjj cb _ (vAt m 2) 0 w9 (hm.get (zmc (zmc mh)))) ?_;rintro r w10 ⟨rfl,rfl⟩;(conv=>whnf);have hub:upN (dN m) 16<=4194304:=AU (qb9 _ _ Od) hn0;have hmul:upN (dN m) 16*dW m<=4194304*27:=BT hub hWb;obtain⟨f,ef⟩:∃f,f=upN (dN m) 16*dW m:=⟨_,rfl⟩
  have efi:((upN (dN m) 16:Nat):Int)*((dW m:Nat):Int)=(f:Int):=by rw[ef,Dr]
  rw[<-ef]at hmul;have e3:qcq m=vAt m 2:=rfl;have e4:qx m=qcq m+(f+7)/8:=by rw[ef];rfl
  have e5:dEnd m=qx m+vNum m 1:=rfl;have h2l:=qh9 m 2;refine zy ?_;have hm:=hm.drew;refine zt ?_;refine LoadV.mem (i:=0) Oa rfl rfl (zw ?_);refine zt ?_;refine⟨ii (upN (dN m) 16),qmp (dN m) _ hn0,?_⟩;conv=>whnf
  (repeat'(first|refine zp ?_|refine zC (fun _=>zw ?_) (fun _=>zw ?_)|(refine zJ 1 ?_;(conv=>whnf))|refine LoadV.mem (i:=0) Oa rfl rfl (zw ?_)|refine LoadV.mem (i:=1) Oa rfl rfl (zw ?_)))
  ·have hdE:dE m=(m.length,10):=by rw[dE,Aa Oo,Ad Oo]
   refine zcv (qfv m.length 10 _) ?_;rintro r w7 ⟨⟨eb,rfl,hec⟩,he7⟩;(conv=>whnf);refine⟨.inl ⟨by rw[hdE];simp,_,rfl,?_⟩,hm.ext.trans he7⟩;rw[hdE];exact⟨eb,rfl,hec⟩
  ·have hdE:dE m=(dEnd m,13):=by rw[dE,Aa Oo,Aa Oo,Ad Oo]
   have hEnd:(((vAt m 2:Nat):Int)+(((upN (dN m) 16:Nat):Int)*((dW m:Nat):Int)+7)/8+((vNum m 1:Nat):Int))=((dEnd m:Nat):Int):=by omega
   rw[hEnd];refine zcv (qfv (dEnd m) 13 _) ?_;rintro r w7 ⟨⟨eb,rfl,hec⟩,he7⟩;(conv=>whnf);refine⟨.inl ⟨by rw[hdE];simp,_,rfl,?_⟩,hm.ext.trans he7⟩;rw[hdE];exact⟨eb,rfl,hec⟩
  have hdE:dE m=(0,0):=by rw[dE,Aa Oo,Aa Oo,Aa Oo]
  have hlen:m.length=dEnd m:=by omega
  obtain⟨w11,ew11⟩:∃w11:Ez,w11=w10.drew:=⟨_,rfl⟩
  rw[<-ew11]at hm|-;obtain⟨PV,hPV⟩:∃PV:E8,PV=.slice (if c=qcq m then A else A.map (·.add (qcq m*1))) (qx m-qcq m) (c-qcq m):=⟨_,rfl⟩
  obtain⟨EV,hEV⟩:∃EV:E8,EV=.slice (if c=qx m then A else A.map (·.add (qx m*1))) (dEnd m-qx m) (c-qx m):=⟨_,rfl⟩
  refine DrawV.inv (fun S w'=>Mem w w' [(b,.cells #[ii (dN m),ii (dW m),(bif S 12 then PV else .slice none 0 0),(bif S 15 then EV else .slice none 0 0)] 317),(hd,.cells #[ii (vNum m 0),ii (vNum m 1)] 318),(cb,curO 288 (.slice A m.length c) (vAt m 2) 0)]) rfl Jk hm.drew (zw ?_);(iterate 5 (refine zi ?_));refine StepI.of PV (fun S wd hk hp hI=>zw ?_) (zw ?_)
  ·refine SliceV.to (qcq m) (qx m) c (by show(_:Int)=_;omega) (by show(_:Int)=_;omega) rfl Oo Oo znr (fun h=>by cases h) (zw ?_);exact⟨hPV.symm,hI⟩
  (iterate 3 (refine zi ?_));refine StepI.of EV (fun S wd hk hp hI=>zw ?_) ?_
  ·refine SliceV.to (qx m) (dEnd m) c (by show(_:Int)=_;omega) (by show(_:Int)=_;omega) rfl Oo Oo znr (fun h=>by cases h) (zw ?_);exact⟨hEV.symm,hI⟩
  subst hPV hEV;(conv=>whnf);refine zi ?_;refine zi ?_;refine StepI.of undef (fun S wd hk hp hI=>?_) (zw ?_)
  ·dsimp only at hI;rw[hk]at hI;(conv=>whnf);refine StoreV.mem hI (i:=0) rfl (show 2<4 by decide) rfl fun wx hmx=>zw ?_;exact⟨rfl,hmx⟩
  refine zi ?_;refine zi ?_;refine StepI.of undef (fun S wd hk hp hI=>?_) (zw ?_)
  ·dsimp only at hI;rw[hk]at hI;(conv=>whnf);refine StoreV.mem hI (i:=0) rfl (show 3<4 by decide) rfl fun wx hmx=>zw ?_;exact⟨rfl,hmx⟩
  intro w12 hI;(conv=>whnf);obtain⟨o1,o2⟩:=hI.own _ mh;have l1:(qag m).length=qx m-qcq m:=by rw[qag,AG,zld];omega
  have l2:(qe m).length=dEnd m-qx m:=by rw[qe,zld];omega
  have e9:(((vAt m 2:Nat):Int)+(((upN (dN m) 16:Nat):Int)*((dW m:Nat):Int)+7)/8)=((qx m:Nat):Int):=by omega
  rw[e9];have c1:SlAt encB 1 w (if c=qcq m then A else A.map (·.add (qcq m*1))) (qag m):=hS.cut (m:=c) Oo Oo Oo rfl;have c2:SlAt encB 1 w (if c=qx m then A else A.map (·.add (qx m*1))) (qe m):=by
   have:=hS.cut (m:=c) (lo:=qx m) (hi:=m.length) (A':=if c=qx m then A else A.map (·.add (qx m*1))) Oo Oo Oo rfl
   rwa[AF Js]at this
  refine⟨.inr ⟨by rw[hdE],b,rfl,o1,⟨⟨_,c-qcq m,_,c-qx m,?_,c1.ext hI.ext,c2.ext hI.ext,?_⟩,hn0,g2,?_,?_⟩⟩,hI.ext⟩
  ·rw[l1,l2];exact o2
  ·rw[l2];omega
  ·rw[l1,<-ef];omega
  ·rw[l2];show _=vNum m 1;omega
def DVwR(m:LB)(v:E8)(w0 w:Ez):Prop:=
 ((dE m).2≠0/\∃e,v=.tuple #[.pointer none,e]/\ErrAt w e (dE m).1 (dE m).2)\/
 ((dE m).2=0/\∃b,v=.tuple #[pp b,.nilIface]/\w0.heap.size<=b/\DictAt w b m)
theorem q0c(m:LB)(A:oA)(c:Nat)(w:Ez)(hS:SlAt encB 1 w A m)(hc:m.length<=c)(hl:m.length<=140737488355328):
  Gv EG 101 [.slice A m.length c] w fun v w'=>DVwR m v w w'/\Ext w w':=by
 have hsh:=qxm m A c w hS hc hl;refine ze Tryz.func101 Tryz.ntmps101 ?_;refine zcv (hsh) ?_;rintro v w1 ⟨⟨h0,e,rfl,b,rfl,hE⟩|⟨h0,b,rfl,hb,hD⟩,he⟩
 ·(conv=>whnf);exact⟨.inl ⟨h0,_,rfl,b,rfl,hE⟩,he⟩
 ·(conv=>whnf);exact⟨.inr ⟨h0,b,rfl,hb,hD⟩,he⟩
theorem q7e(s:E8)(n m b:Nat)(w:Ez)(hb:w.heap[b]?=some (vecO 295 s n m)):Gv EG 141 [pp b] w fun r w'=>r=ii n/\w'=w:=by
 refine ze Tryz.func141 Tryz.ntmps141 ?_;refine LoadV.own hb rfl (zw ?_);exact⟨rfl,rfl⟩
theorem q3y(s:E8)(n m b:Nat)(w:Ez)(hb:w.heap[b]?=some (vecO 295 s n m)):Gv EG 142 [pp b] w fun r w'=>r=ii m/\w'=w:=by
 refine ze Tryz.func142 Tryz.ntmps142 ?_;refine LoadV.own hb rfl (zw ?_);exact⟨rfl,rfl⟩
theorem qrh(x:Nat)(w:Ez)(hx:x<256):Gv EG 224 [.int .u8 x] w fun r w'=>r=ii (qgu x)/\w'=w:=by
 refine ze Tryz.func224 Tryz.ntmps224 ?_;refine IdxV.nat (by show x<256;exact hx) (zw ?_);refine Wit.conv (qbj (Bw (qa1 _) Od)) (zw ?_);refine⟨Af (Value.int .i64) (Af Int.ofNat ?_),rfl⟩;clear w
 revert x
 decide +kernel
theorem qki(l:LB)(A:oA)(c b i:Nat)(w:Ez)(hS:SlAt encB 1 w A l)(hc:l.length<=c)(hv:vOk l=true)(hb:w.heap[b]?=some (vecO 295 (.slice A l.length c) (vN l) (vM l)))(hi:i<=67108864):
  Gv EG 205 [pp b,ii i] w fun r w'=>r=ii (qel l i)/\Ext w w':=by
 refine ze Tryz.func205 Tryz.ntmps205 ?_;simp only[vOk,AJ,decide_eq_true_eq]at hv;obtain⟨⟨⟨v1,v2⟩,v3⟩,v4⟩:=hv;have u1:=qb9 (vN l) 8 Od;have u2:=qb9 (vN l) 2048 Od;have u3:=qb9 (vN l) 256 Od;have u4:=qb9 (vM l) 512 Od;have g1:qaa (vN l)=8+upN (vN l) 8:=rfl;have g2:qbi (vN l)=qaa (vN l)+4*upN (vN l) 2048:=rfl;have g3:qdn (vN l)=qbi (vN l)+2*upN (vN l) 256:=rfl;have g4:qch (vN l) (vM l)=qdn (vN l)+4*upN (vM l) 512:=rfl;rw[qel];refine zC (fun _=>zu ?_) (fun _=>zu ?_)
 ·exact⟨by rw[Ad Oo];rfl,xr⟩
 refine LoadV.own hb rfl (zw ?_);refine zt ?_;refine zC (fun _=>zw ?_) (fun _=>zw ?_)
 ·exact⟨by rw[Ad Oo];rfl,xr⟩
 refine LoadV.own hb rfl (zw ?_);refine zC (fun _=>zw ?_) (fun _=>zw ?_)
 ·refine LoadV.own hb rfl (zw ?_);exact⟨by rw[Aa Oo,Ad Oo],xr⟩
 obtain⟨g,off,hA,_⟩:=hS.at_ (by intro e;rw[e]at v1;simp at v1);subst hA;have k1:i/2048+1<=upN (vN l) 2048:=by unfold upN;omega
 have k2:i/256+1<=upN (vN l) 256:=by unfold upN;omega
 have k3:i/8+1<=upN (vN l) 8:=by unfold upN;omega
 refine DrawV.free Jk Jk (zw ?_);(iterate 3 (refine zd ?_));refine zf ?_ (by intro wd hd;(conv=>whnf);refine LoadV.own (Ext.get (Ext.trans (Ext.drew xr) hd) hb) rfl ?_;(conv=>whnf);exact xq);(iterate 4 (refine zd ?_));refine zf ?_ (by intro wd hd;(conv=>whnf);refine LoadV.own (Ext.get (Ext.trans (Ext.drew xr) hd) hb) rfl ?_;(conv=>whnf);exact xq);(iterate 4 (refine zd ?_));apply zsd
 ·intro wd hd;(conv=>whnf);refine SliceV.rest (qaa (vN l)+4*(i/2048)) (by show(qaa (vN l):Int)+4*((i:Int)/2048)=((qaa (vN l)+4*(i/2048):Nat):Int);omega) hc Oo (zw ?_);exact xq
 (conv=>whnf);apply zsd
 ·intro wd hd;(conv=>whnf);refine zcv (qok (l.drop (qaa (vN l)+4*(i/2048))) _ _ _ wd (SlAt.rest (hS.ext ((Ext.refl w).drew.trans hd)) Oo) (by rw[zld]) (by rw[zld];omega)) ?_;rintro v w9 ⟨rfl,h9⟩;exact⟨h9,rfl⟩
 (conv=>whnf);(iterate 3 (refine zd ?_));refine zf ?_ (by intro wd hd;(conv=>whnf);refine LoadV.own (Ext.get (Ext.trans (Ext.drew xr) hd) hb) rfl ?_;(conv=>whnf);exact xq);(iterate 4 (refine zd ?_));refine zf ?_ (by intro wd hd;(conv=>whnf);refine LoadV.own (Ext.get (Ext.trans (Ext.drew xr) hd) hb) rfl ?_;(conv=>whnf);exact xq);(iterate 4 (refine zd ?_));apply zsd
 ·intro wd hd;(conv=>whnf);refine SliceV.rest (qbi (vN l)+2*(i/256)) (by show(qbi (vN l):Int)+2*((i:Int)/256)=((qbi (vN l)+2*(i/256):Nat):Int);omega) hc Oo (zw ?_);exact xq
 (conv=>whnf);apply zsd
 ·intro wd hd;(conv=>whnf);refine zcv (qacb (l.drop (qbi (vN l)+2*(i/256))) _ _ _ wd (SlAt.rest (hS.ext ((Ext.refl w).drew.trans hd)) Oo) (by rw[zld]) (by rw[zld];omega)) ?_;rintro v w9 ⟨rfl,h9⟩;exact⟨h9,rfl⟩
 (conv=>whnf);have hG:=qaw (l.drop (qaa (vN l)+4*(i/2048))) 4 (by rw[zld];omega);have hH:=qaw (l.drop (qbi (vN l)+2*(i/256))) 2 (by rw[zld];omega);obtain⟨G,eG⟩:∃G,G=leN ((l.drop (qaa (vN l)+4*(i/2048))).take 4):=⟨_,rfl⟩
 obtain⟨H,eH⟩:∃H,H=leN ((l.drop (qbi (vN l)+2*(i/256))).take 2):=⟨_,rfl⟩
 rw[<-eG]at hG|-;rw[<-eH]at hH|-;simp only[Nat.reduceMul,Nat.reducePow]at hG hH;refine zd ?_;refine zd ?_;intro w1 he1;(conv=>whnf);have hx:=(Ext.refl w).drew.trans he1;refine zv ?_;have hof:∀k,k<=i%256/8->qbd l (8+i/256*32) k<=8*k:=fun k hk=>by
  clear hG hH
  induction k with
  | zero=>exact Aq _
  | succ k ih=>
   have:=ih Oo;have h8:qgu (l.getD (8+i/256*32+k) 0).toNat<=8:=by unfold qgu;omega
   rw[qbd];omega
 refine qj (fun k:Nat=>[(0,pp b),(1,ii i),(5,ii (G+H+qbd l (8+i/256*32) k:Nat)),(7,ii (i/256*256+8*k:Nat))]) (fun k w'=>k<=i%256/8/\Ext w w') (fun k=>i%256/8-k) 0
  ⟨rfl,rfl,by simp only[qbd];rfl,by simp;rfl,trivial⟩ ⟨by omega,hx⟩ ?_
 rintro k w2 ρ' ⟨k1,he2⟩;have hk:=hof k k1;(conv=>whnf);refine zt ?_;refine zC (fun _=>zw ?_) (fun _=>zw ?_)
 ·refine zy ?_;refine zv ?_;have hx2:=he2.drew;refine LoadV.own (hx2.get hb) rfl (zu ?_);refine LoadV.own (hx2.get hb) rfl (zu ?_);have hj:8+i/256*32+k<l.length:=by omega
  refine ElemV.bs (hS.ext hx2) rfl (8+i/256*32+k) Oo hj ?_;intro eb eo hcell;have hlt:=qa1 (l[8+i/256*32+k]);refine zu ?_;refine LoadV.of hcell (zu ?_);refine⟨ii (qgu (l[8+i/256*32+k]).toNat),qrh _ _ hlt,?_⟩;have h8:qgu (l[8+i/256*32+k]).toNat<=8:=by unfold qgu;omega
  have hon:qbd l (8+i/256*32) (k+1)=qbd l (8+i/256*32) k+qgu (l[8+i/256*32+k]).toNat:=by
   rw[qbd,Ag,zge hj];rfl
  refine zu ?_;exact⟨k+1,⟨rfl,rfl,by rw[hon];exact Af (Value.int .i64) Oo,by exact Af (Value.int .i64) Oo,trivial⟩,⟨by omega,hx2⟩,by omega⟩
 ·obtain rfl:k=i%256/8:=by omega
  refine zy ?_;refine zv ?_;have hx2:=he2.drew;refine LoadV.own (hx2.get hb) rfl (zu ?_);refine LoadV.own (hx2.get hb) rfl (zu ?_);have hj:8+i/8<l.length:=by omega
  refine ElemV.bs (hS.ext hx2) rfl (8+i/8) Oo hj ?_;intro eb eo hcell;have hlt:=qa1 (l[8+i/8]);have hpw:2 ^ (i%8)<=2 ^ 7:=Bs Od Oo;have hpp:=Nat.two_pow_pos (i%8);simp only[Nat.reducePow]at hpw;refine zu ?_;refine LoadV.of hcell (zu ?_);refine V.Wit.shlN (a:=1) (i%8) Oo (by show i%8<8;omega) (qgf Oo) ?_;rw[Eq];refine zu ?_;refine Wit.eq (qbb (k:=.u8) (m:=(l[8+i/8]).toNat) (i%8) Oo (qgf hlt) ⟨by omega,by omega⟩) ?_;have hm8:(l[8+i/8]).toNat%2 ^ (i%8)<256:=Ca (Nat.mod_le _ _) hlt;refine zu ?_;refine⟨ii (qgu ((l[8+i/8]).toNat%2 ^ (i%8))),qrh _ _ hm8,?_⟩;have h8:qgu ((l[8+i/8]).toNat%2 ^ (i%8))<=8:=by unfold qgu;omega
  refine zu ?_;refine V.Fall.max2 rfl rfl rfl fun mx hmx=>?_;(conv=>whnf);refine V.Fall.min2 rfl rfl rfl fun mn hmn=>?_;(conv=>whnf);refine⟨Af (Value.int .i64) ?_,hx2⟩;rw[Aa Oo,Aa Oo,Ag,zge hj,CI];omega
theorem qbs(b off i wd cp:Nat)(P:oA)(p:LB)(w:Ez)(h1:w.cell? ⟨b,off+1,none⟩=some (ii wd))(h5:w.cell? ⟨b,off+5,none⟩=some (.slice P p.length cp))(hP:SlAt encB 1 w P p)(hw:wd<=23)(hi:i<=4194304):
  Gv EG 202 [.pointer (some ⟨b,off,none⟩),ii i] w fun r w'=>r=ii (numP p wd i)/\Ext w w':=by
 have hb:i*wd<=4194304*23:=BT hi hw;rw[numP];obtain⟨f,ef⟩:∃f,f=i*wd:=⟨_,rfl⟩
 have efi:(i:Int)*(wd:Int)=(f:Int):=by rw[ef,Dr]
 rw[<-ef]at hb|-;obtain⟨m,em⟩:∃m,m=p.drop (f/8):=⟨_,rfl⟩
 have hml:m.length=p.length-f/8:=by rw[em,zld]
 rw[<-em];refine ze Tryz.func202 Tryz.ntmps202 ?_;refine LoadV.of h1 (zw ?_);rw[efi];refine zv ?_;refine qj (fun k:Nat=>[(0,.pointer (some ⟨b,off,none⟩)),(5,ii f),(6,ii (leN (m.take k))),(7,ii k)]) (fun k w'=>k<=4/\k<=m.length/\w'=w) (fun k=>4-k) 0 fq ⟨by omega,by omega,rfl⟩ ?_;rintro k w1 ρ' ⟨k1,k2,rfl⟩;have hlt:=qaw m k k2;have hp:=pow8 k k1;have fin:∀x,x=leN (m.take 4)->x<4294967296:=fun x hx=>by
  rw[hx];have:=q1l (m.take 4);have h3:256 ^ (m.take 4).length<=256 ^ 4:=Bs Od Ys;have h4:(256:Nat) ^ 4=4294967296:=by decide
  omega
 have hpw:2 ^ wd<=2 ^ 23:=Bs Od hw;have hpp:=Nat.two_pow_pos wd;simp only[Nat.reducePow]at hpw;(conv=>whnf);refine zC (fun _=>zu ?_) (fun _=>zu ?_)
 ·refine LoadV.of h5 (zw ?_);refine zt ?_;refine zC (fun _=>zw ?_) (fun _=>zw ?_)
  ·have hk:k<m.length:=by omega
   refine LoadV.of h5 (zu ?_);refine ElemV.bs hP rfl (f/8+k) Oo Oo ?_;intro eb eo hc;have hmk:p[f/8+k]' Oo=m[k]:=by simp[em]
   rw[hmk]at hc;have hb4:=qa1 m[k];have hp:=pow8 (k+1) Oo;have hlt1:=qaw m (k+1) Oo;rw[qkc m k hk]at hlt1;(conv=>whnf);refine LoadV.of hc (zu ?_);refine V.Wit.shlN (8*k) Oo (by show 8*k<64;omega) (qbj Oo) (zw ?_);refine Wit.eq (qc2 (8*k) (qbj Oo) hlt) (zu ?_);exact⟨k+1,⟨rfl,rfl,by rw[qkc m k hk];rfl,rfl,trivial⟩,⟨by omega,by omega,rfl⟩,by omega⟩
  ·have e4:leN (m.take k)=leN (m.take 4):=by rw[AF Oo,AF Oo]
   rw[e4];have hx:=fin _ rfl;generalize leN (m.take 4)=x at hx|-;have hx2:x/2 ^ (f%8)<=x:=DA _ _;refine zy ?_;refine zv ?_;refine V.Wit.shrN (f%8) Oo (by show f%8<64;omega) (zu ?_);refine LoadV.of h1 (zu ?_);refine V.Wit.shlN (a:=1) wd Oo (by show wd<64;omega) (qbj Oo) ?_;rw[Eq];refine zu ?_;refine Wit.eq (qbb (k:=.i64) (m:=x/2 ^ (f%8)) wd Oo (qbj Oo) ⟨by omega,by omega⟩) (zu ?_);exact⟨rfl,(Ext.refl w1).drew⟩
 ·obtain rfl:k=4:=by omega
  have hx:=fin _ rfl;generalize leN (m.take 4)=x at hx|-;have hx2:x/2 ^ (f%8)<=x:=DA _ _;refine zy ?_;refine zv ?_;refine V.Wit.shrN (f%8) Oo (by show f%8<64;omega) (zu ?_);refine LoadV.of h1 (zu ?_);refine V.Wit.shlN (a:=1) wd Oo (by show wd<64;omega) (qbj Oo) ?_;rw[Eq];refine zu ?_;refine Wit.eq (qbb (k:=.i64) (m:=x/2 ^ (f%8)) wd Oo (qbj Oo) ⟨by omega,by omega⟩) (zu ?_);exact⟨rfl,(Ext.refl w1).drew⟩
def fnA(n:Nat)(F:EB):EH:=((List.range n).map F).toArray
def updF(F:EB)(i:Nat)(v:E8):Nat->E8:=fun j=>if j=i then v else F j
theorem qg1(F:EB)(i:Nat)(v:E8):updF F i v i=v:=by simp[updF]
theorem qak(F:EB)(i j:Nat)(v:E8)(h:j≠i):updF F i v j=F j:=by simp[updF,h]
theorem qz(n:Nat)(F:EB):(fnA n F).size=n:=by simp[fnA]
theorem qdd(n:Nat)(F:EB)(i:Nat)(h:i<n):(fnA n F)[i]?=some (F i):=by
 rw[fnA,Ar,Ao,Bt h];rfl
theorem qir(n:Nat)(F:EB)(i:Nat)(v:E8):(fnA n F).setIfInBounds i v=fnA n (updF F i v):=by
 rw[<-Bf];simp only[fnA,Co];apply BW;intro j;rw[BX,Ao,Ao]
 by_cases e:i=j
 ·subst e;rw[Ad rfl]
  by_cases h:i<n
  ·rw[Ad (by simpa using h),Bt h];simp[updF]
  ·rw[Aa (by simpa using h),Au (by simpa using h)];rfl
 ·rw[Aa e]
  by_cases h:j<n
  ·rw[Bt h];simp[updF,Ne.symm e]
  ·rw[Au (by simpa using h)];rfl
theorem V.LoadV.fn{n:Nat}{F:EB}{t:E6}{v:E8}{K:E8->Prop}(h:Mem w0 w L)(hi:L[i]?=some (b,.cells (fnA n F) t))(j:Nat)(e:off=j)(hj:j<n)(hv:F j=v)(hk:K v):LoadV w b off K:=by
 subst e;exact LoadV.mem h hi (by rw[qdd n F _ hj,hv]) hk
theorem V.StoreV.fn{n:Nat}{F:EB}{t:E6}{v:E8}{K:EC}(h:Mem w0 w L)(hi:L[i]?=some (b,.cells (fnA n F) t))(j:Nat)(e:off=j)(hj:j<n)(h1:qcx v=true)(hk:∀w',Mem w0 w' (L.set i (b,.cells (fnA n (updF F j v)) t))->K w'):StoreV w b off v K:=by
 subst e;refine StoreV.mem h hi (by rw[qz];exact hj) h1 fun w' hm=>hk w' ?_
 rwa[qir]at hm
theorem lvSz:tsz EG 229=8:=by kernel_rfl
theorem qt9(l:LB)(v:E8)(tb cb:Nat)(F:EB)(w0 w:Ez)(hm:Mem w0 w [(cb,curO 288 v 0 0),(tb,.cells (fnA 32 F) 232)])(hv0:BS w0 v l)(hl:l.length<=140737488355328):
  Gv EG 136 [pp tb,pp cb] w fun r w'=>
   ((errF (tcF l) 4).2≠0/\ErrAt w' r (errF (tcF l) 4).1 (errF (tcF l) 4).2/\Ext w0 w')\/
   ((∀k,k<4->(tcF l k).2=0)/\r=.nilIface/\∃F',(∀k,k<4->F' (8*k)=ii (vNum l k))/\(∀j,j%8≠0->F' j=F j)/\Mem w0 w' [(cb,curO 288 v (vAt l 4) 0),(tb,.cells (fnA 32 F') 232)]):=by
 refine ze Tryz.func136 Tryz.ntmps136 ?_;refine qj (fun x:Nat×EB=>[(0,pp tb),(1,pp cb),(4,.nilIface),(9,ii x.1)])
  (fun x w'=>x.1<=4/\(∀j,j<x.1->(tcF l j).2=0)/\(∀k,k<x.1->x.2 (8*k)=ii (vNum l k))/\(∀j,j%8≠0->x.2 j=F j)/\Mem w0 w' [(cb,curO 288 v (vAt l x.1) 0),(tb,.cells (fnA 32 x.2) 232)]) (fun x=>4-x.1) (0,F)
  fq ⟨by simp,fun j h=>by simp at h,fun j h=>by simp at h,fun j _=>rfl,hm⟩ ?_
 clear hm;rintro⟨k,F1⟩ w1 ρ' ⟨k1,hz,hF,hF2,hm⟩;dsimp only at k1 hz hF hF2 hm|-;(conv=>whnf);refine zC (fun _=>zw ?_) (fun _=>zw ?_)
 ·have hv:BS w1 v l:=hv0.ext hm.ext;have hle:=qh9 l k;have hlt:=qui l k;refine zcv (qjj cb _ (vAt l k) 0 w1 (hm.get mh)) ?_;rintro r w2 ⟨rfl,rfl⟩;(conv=>whnf);refine zcv (qc8 cb _ (vAt l k) 0 l _ (hm.get mh) hv hle hl) ?_;rintro r w3 ⟨rfl,hu⟩
  by_cases he:(numL (l.drop (vAt l k))).2.2=0
  ·rw[qp5 he,qp6 he]at hu;rw[qp4 he];have hm:Mem w0 w3 [(cb,curO 288 v (vAt l (k+1)) 0),(tb,.cells (fnA 32 F1) 232)]:=hm.upd (i:=0) rfl hu;(conv=>whnf);refine zcv (qcb cb _ _ 0 w3 (hm.get mh)) ?_;rintro r w4 ⟨rfl,rfl⟩;(conv=>whnf);refine zt ?_;refine zC (fun _=>zu ?_) (fun _=>zu ?_)
   ·have hf:tcF l k=(vAt l k,2):=by rw[tcF,qle he Oo,Ad Js]
    refine zcv (qbw (vAt l k) 2 _) ?_;rintro r w7 ⟨⟨eb,rfl,hec⟩,he7⟩;have hE:=qcj (f:=tcF l) (n:=4) (k:=k) hz Oo (by rw[hf];simp);(conv=>whnf);refine .inl ⟨by rw[hE,hf];simp,?_,hm.ext.trans he7⟩;rw[hE,hf];exact⟨eb,rfl,hec⟩
   ·refine StoreV.fn hm (i:=1) rfl (8*k) (by rw[lvSz];dsimp only;omega) Oo rfl ?_;intro w5 hm;have hm:Mem w0 w5 [(cb,curO 288 v (vAt l (k+1)) 0),(tb,.cells (fnA 32 (updF F1 (8*k) (ii (vNum l k)))) 232)]:=hm;(conv=>whnf);refine zC (fun _=>zu ?_) (fun _=>zu ?_)
    ·refine IdxV.at_ (k-1) Oo Oo (zu ?_);refine LoadV.fn (v:=ii (vNum l (k-1))) hm (i:=1) rfl (8*(k-1)) (by rw[lvSz];dsimp only;omega) Oo (by rw[qak _ _ _ _ Oo];exact hF (k-1) Oo) (zw ?_);refine zt ?_;refine zC (fun _=>zu ?_) (fun _=>zu ?_)
     ·have hf:tcF l k=(vAt l k,180):=by rw[tcF,qcw he Oo,Aa Js,Ad ⟨by omega,by omega⟩]
      refine zcv (qbw (vAt l k) 180 _) ?_;rintro r w7 ⟨⟨eb,rfl,hec⟩,he7⟩;have hE:=qcj (f:=tcF l) (n:=4) (k:=k) hz Oo (by rw[hf];simp);(conv=>whnf);refine .inl ⟨by rw[hE,hf];simp,?_,hm.ext.trans he7⟩;rw[hE,hf];exact⟨eb,rfl,hec⟩
     ·refine IdxV.at_ (k-1) Oo Oo (zu ?_);refine LoadV.fn (v:=ii (vNum l (k-1))) hm (i:=1) rfl (8*(k-1)) (by rw[lvSz];dsimp only;omega) Oo (by rw[qak _ _ _ _ Oo];exact hF (k-1) Oo) (zu ?_);refine Tst.iff (vNum l (k-1)=0↔vNum l k=0) (by rw[CU,decide_eq_decide];omega) (fun h=>?_) (fun h=>?_)
      ·refine zu ?_;have hf:(tcF l k).2=0:=by rw[tcF,qcw he Oo,Aa Js,Aa Oo]
       refine⟨(k+1,updF F1 (8*k) (ii (vNum l k))),fq,⟨by simp only;omega,fun j hj=>?_,fun j hj=>?_,fun j hj=>?_,hm⟩,by simp only;omega⟩
       ·by_cases e:j=k
        ·subst e;exact hf
        ·exact hz j (by simp only at hj;omega)
       ·by_cases e:j=k
        ·subst e;exact qg1 _ _ _
        ·simp only at hj|-;rw[qak _ _ _ _ Oo];exact hF j Oo
       ·simp only;rw[qak _ _ _ _ Oo];exact hF2 j hj
      ·(conv=>whnf);have hf:tcF l k=(vAt l k,180):=by rw[tcF,qcw he Oo,Aa Js,Ad ⟨by omega,.inr h⟩]
       refine zcv (qbw (vAt l k) 180 _) ?_;rintro r w7 ⟨⟨eb,rfl,hec⟩,he7⟩;have hE:=qcj (f:=tcF l) (n:=4) (k:=k) hz Oo (by rw[hf];simp);(conv=>whnf);refine .inl ⟨by rw[hE,hf];simp,?_,hm.ext.trans he7⟩;rw[hE,hf];exact⟨eb,rfl,hec⟩
    ·have hk0:k=0:=by omega
     have hf:(tcF l k).2=0:=by rw[tcF,qcw he Oo,Aa Js,Aa Oo]
     refine⟨(k+1,updF F1 (8*k) (ii (vNum l k))),fq,⟨by simp only;omega,fun j hj=>?_,fun j hj=>?_,fun j hj=>?_,hm⟩,by simp only;omega⟩
     ·by_cases e:j=k
      ·subst e;exact hf
      ·exact hz j (by simp only at hj;omega)
     ·by_cases e:j=k
      ·subst e;exact qg1 _ _ _
      ·simp only at hj|-;rw[qak _ _ _ _ Oo];exact hF j Oo
     ·simp only;rw[qak _ _ _ _ Oo];exact hF2 j hj
  ·rw[qp2 he,qp3 he]at hu;rw[qp1 he];have hm:Mem w0 w3 [(cb,curO 288 v (vAt l k) (numL (l.drop (vAt l k))).2.2),(tb,.cells (fnA 32 F1) 232)]:=hm.upd (i:=0) rfl hu;(conv=>whnf);refine zcv (qcb cb _ _ _ w3 (hm.get mh)) ?_;rintro r w4 ⟨rfl,rfl⟩;refine zu ?_;have hf:tcF l k=(vAt l k,(numL (l.drop (vAt l k))).2.2):=by rw[tcF,qo8 he,Ad he]
   refine zcv (qbw (vAt l k) (numL (l.drop (vAt l k))).2.2 _) ?_;rintro r w7 ⟨⟨eb,rfl,hec⟩,he7⟩;have hE:=qcj (f:=tcF l) (n:=4) (k:=k) hz Oo (by rw[hf];exact he);(conv=>whnf);refine .inl ⟨by rw[hE,hf];exact he,?_,hm.ext.trans he7⟩;rw[hE,hf];exact⟨eb,rfl,hec⟩
 ·obtain rfl:k=4:=by omega
  exact .inr ⟨hz,rfl,F1,hF,hF2,hm⟩
open Go.RowKit
namespace V
def qr7(n:Nat)(ops:Array Oper):Bool:=
 Region.noSelect ops&&(List.range ops.size).all fun j=>
  match ops[j]? with
  | none=>true
  | some o=>(qu o).all (fun k=>decide (k<j))&&(match o.dst with|some d=>decide (d<n)|none=>true)&&(List.range ops.size).all fun k=>
   match ops[k]? with
   | none=>true
   | some ok=>match ok.dst with
    | none=>true
    | some t=>(!(o.looksAt ops).contains t||((qu o).contains k||(qu ok).contains j))&&(k==j||o.dst != some t)
structure ShapeW(n:Nat)(ops:Array Oper):Prop where
 sel:Region.noSelect ops=true
 lt:∀(j:Nat) (o:Oper),ops[j]?=some o->∀k∈qu o,k<j
 dn:∀(j:Nat) (o:Oper),ops[j]?=some o->∀d,o.dst=some d->d<n
 look:∀(j:Nat) (o:Oper) (k:Nat) (ok:Oper) (t:Nat),ops[j]?=some o->ops[k]?=some ok->ok.dst=some t->t∈o.looksAt ops->k∈qu o\/j∈qu ok
 uniq:∀(j:Nat) (o:Oper) (k:Nat) (ok:Oper) (t:Nat),ops[j]?=some o->ops[k]?=some ok->ok.dst=some t->o.dst=some t->k=j
theorem qlz{n:Nat}(h:qr7 n ops=true):ShapeW n ops:=by
 simp only[qr7,AJ]at h;obtain⟨h1,h2⟩:=h;have key:∀(j:Nat) (o:Oper),ops[j]?=some o->((qu o).all (fun k=>decide (k<j))&&(match o.dst with|some d=>decide (d<n)|none=>true)&&(List.range ops.size).all fun k=>
   match ops[k]? with
   | none=>true
   | some ok=>match ok.dst with
    | none=>true
    | some t=>(!(o.looksAt ops).contains t||((qu o).contains k||(qu ok).contains j))&&(k==j||o.dst != some t))=true:=fun j o hj=>by
  have:=Ce.1 h2 j (BY.2 (AS.1 hj).1);rw[hj]at this;exact this
 have key2:∀(j:Nat) (o:Oper) (k:Nat) (ok:Oper) (t:Nat),ops[j]?=some o->ops[k]?=some ok->ok.dst=some t->((!(o.looksAt ops).contains t||((qu o).contains k||(qu ok).contains j))&&(k==j||o.dst != some t))=true:=fun j o k ok t hj hk ht=>by
  have:=key j o hj;simp only[AJ]at this;have:=Ce.1 this.2 k (BY.2 (AS.1 hk).1);rw[hk]at this;simp only[ht]at this
  simpa using this
 refine⟨h1,fun j o hj k hk=>?_,fun j o hj d hd=>?_,fun j o k ok t hj hk ht hl=>?_,fun j o k ok t hj hk ht ho=>?_⟩
 ·have:=key j o hj;simp only[AJ]at this
  simpa using Ce.1 this.1.1 k hk
 ·have:=key j o hj;simp only[AJ]at this;have:=this.1.2;rw[hd]at this
  simpa using this
 ·have:=key2 j o k ok t hj hk ht;simp only[AJ,CA,Du]at this
  rcases this.1 with h|h
  ·rw[List.contains_eq_mem,decide_eq_false_iff_not]at h;exact absurd hl h
  ·simpa using h
 ·have:=key2 j o k ok t hj hk ht;simp only[AJ,CA,CU]at this
  rcases this.2 with h|h
  ·exact h
  ·rw[ho]at h;simp at h
section
variable {P:E4} {n:Nat} {ops:Array Oper} {w0:Ez} {E:List Ent} {ρ:EB}
theorem qhd(hd:∀(i:Nat) (o:Oper) (e:Ent),ops[i]?=some o->E[i]?=some e->EntOk e o)(hl:E.length=ops.size)(hS:ShapeW n ops)(I:InvD n E w0 ρ listed vals ρa a w)(i:Nat)(ks:EF)(t:Nat)(h1:∀(k:Nat) (e:Ent),E[k]?=some e->e.d=some t->k<i->listed.getD k false=true/\(e.v=none->k∈ks))(h2:∀(k:Nat) (e:Ent),E[k]?=some e->e.d=some t->listed.getD k false=true->k<i):
  fr (E.take i) vals ks (sfr (E.take i) ρ) t=ρa t:=by
 have op_of:∀(k:Nat) (e:Ent),E[k]?=some e->∃o,ops[k]?=some o/\EntOk e o:=fun k e hk=>by
  have hlt:k<ops.size:=by
   rw[<-hl]
   rcases AX k E.length with h|h
   ·exact h
   ·rw[Au h]at hk;cases hk
  exact⟨ops[k],Aj hlt,hd k _ e (Aj hlt) hk⟩
 have uniq:∀(k k':Nat) (e e':Ent),E[k]?=some e->E[k']?=some e'->e.d=some t->e'.d=some t->k'=k:=fun k k' e e' hk hk' hd1 hd2=>by
  obtain⟨o,ho,hok⟩:=op_of k e hk;obtain⟨o',ho',hok'⟩:=op_of k' e' hk';exact hS.uniq k o k' o' t ho ho' (hok'.d ▸ hd2) (hok.d ▸ hd1)
 have inE:∀(k:Nat) (e:Ent),getL (E.take i) k=some e->E[k]?=some e/\k<i:=fun k e hk=>by
  rw[qm,Bc]at hk
  split at hk
  ·exact⟨hk,by assumption⟩
  ·cases hk
 by_cases hex:∃(k:Nat) (e:Ent),E[k]?=some e/\e.d=some t/\k<i
 ·obtain⟨k,e,hk,hdt,hki⟩:=hex;obtain⟨hlis,hks⟩:=h1 k e hk hdt hki;obtain⟨o,ho,hok⟩:=op_of k e hk;have hra:=I.at_ k hlis e t hk hdt;have hmem:e∈E.take i:=zmg (i:=k) (by rw[Bc,Ad hki];exact hk);have huE:∀e'∈E.take i,e'.d=some t->e'=e:=fun e' he' hd'=>by
   obtain⟨k',hk'⟩:=Bi.1 he';have hk'':=(inE k' e' (by rw[qm];exact hk')).1;have:=uniq k k' e e' hk hk'' hdt hd';subst this;rw[hk]at hk'';exact(BB hk'').symm
  cases hv:e.v with
  | some x=>
   have hx:vals k=x:=hok.v x hv _ _ (I.φ k hlis e hk);rw[qol,q28 _ _ (fun e' he' hd'=>by rw[huE e' he' hd'];exact hv) (.inr ⟨e,hmem,hdt⟩),hra,hx];intro k' _ φ hk';have:=huE _ (zmg (i:=k') (by rw[qm]at hk';exact hk')) rfl;rw[<-this]at hv;cases hv
  | none=>
   obtain⟨ed,ev,eφ⟩:=e;simp only at hdt hv;subst hdt hv;rw[q71 (k0:=k) rfl (fun k' φ hk'=>?_) _ _ (.inr ⟨hks rfl,eφ,by rw[qm,Bc,Ad hki];exact hk⟩),hra];exact uniq k k' _ _ hk (inE k' _ hk').1 rfl rfl
 ·have hno:∀k e,E[k]?=some e->k<i->e.d≠some t:=fun k e hk hki hd=>hex ⟨k,e,hk,hd,hki⟩
  rw[qol,qwx]
  ·refine(I.miss t fun k hk e he hd=>?_).symm;exact hno k e he (h2 k e he hd hk) hd
  ·intro e he hd;obtain⟨k',hk'⟩:=Bi.1 he;obtain⟨h3,h4⟩:=inE k' e (by rw[qm];exact hk');exact absurd hd (hno k' e h3 h4)
  ·intro k' _ φ hk';obtain⟨h3,h4⟩:=inE k' _ hk';exact hno k' _ h3 h4 rfl
theorem qmy{ρ':EB}(hi:ops[i]?=some o)(hS:ShapeW n ops)(ha:St n ρa a)(hag:∀t∈o.looksAt ops,ρ' t=ρa t)(h:qb2 P ops.toList o ρ' w K)(hk:∀v w',K v w'->K2 (a.put o.dst v) w'):wpOp P ops Q' i K2 a w:=by
 have hsel:=Region.noSelect_spec hS.sel i o;have run:opV P o ρ' w K->Region.wanted o (yielded ops a.tmps)=true->wpOp P ops Q' i K2 a w:=fun h hw=>by
  unfold wpOp;rw[hi];simp only[hw,if_true];have hok:=qwg h;rw[q2c (ops:=ops) (fun cs b=>hsel cs b hi) hag]at hok;exact .inl (OpOk.wp ha.eval hok hk)
 have skip:K undef w->Region.wanted o (yielded ops a.tmps)=false->wpOp P ops Q' i K2 a w:=fun h hw=>by
  unfold wpOp;rw[hi];simp only[hw,CF,if_false];exact hk _ _ h
 unfold qb2 at h
 split at h
 ·rename_i hg
  exact run h (by simp[Region.wanted,hg])
 ·rename_i j want hg
  split at h
  ·rename_i hj
   rw[qm]at hj;have:ops[j]?=none:=by simpa using hj
   exact skip h (by simp[Region.wanted,hg,yielded,this])
  ·rename_i oj hj
   have hj':=hj;rw[qm]at hj';have hoj:ops[j]?=some oj:=by simpa using hj'
   split at h
   ·rename_i hd
    exact skip h (by simp[Region.wanted,hg,yielded,hoj,hd])
   ·rename_i d hd
    have hy:=ha.yield hj hd (hS.dn j oj hoj d hd);rw[Array.toArray_toList]at hy;rw[hag d (qhi hg hoj hd)]at h
    split at h
    ·rename_i b hb
     rw[hb]at hy;cases b
     ·have h:=h.f rfl;cases want
      ·exact run h (by simp[Region.wanted,hg,hy])
      ·exact skip h (by simp[Region.wanted,hg,hy])
     ·have h:=h.t rfl;cases want
      ·exact skip h (by simp[Region.wanted,hg,hy])
      ·exact run h (by simp[Region.wanted,hg,hy])
    ·rename_i hb
     refine skip h ?_;have:yielded ops a.tmps j=none:=by
      rw[hy]
      split
      ·rename_i b hb';exact absurd hb' (hb b)
      ·rfl
     simp[Region.wanted,hg,this]
theorem ql9{Q:EB->EC}(hQ:∀ρ a w,St n ρ a->Q ρ w->Q' .normal a w)(hS:ShapeW n ops)(hl:E.length=ops.size)(hE:∀(i:Nat) (o:Oper) (e:Ent),ops[i]?=some o->E[i]?=some e->EntOk e o/\
   ∀w,Ext w0 w->allv (E.take i) (qu o) (sfr (E.take i) ρ) w fun ρ'=>qb2 P ops.toList o ρ' w fun v w'=>Ext w w'/\e.φ v w')(hF:∃ks:EF,(∀k d φ,getL E k=some ⟨some d,none,φ⟩->k∈ks)/\∀w,Ext w0 w->allv E ks (sfr E ρ) w fun ρ'=>Q ρ' w):
  ∀(fuel:Nat) (listed:Array Bool) (vals ρa:EB) (a:Act) (w:Ez),listed.size=ops.size->listed.toList.count false<=fuel->(∀k,listed.getD k false=true->∀o,ops[k]?=some o->∀j∈qu o,listed.getD j false=true)->InvD n E w0 ρ listed vals ρa a w->wpAny P .any ops Q' fuel listed a w:=by
 obtain⟨ks,hks,hF⟩:=hF;have hd:∀(i:Nat) (o:Oper) (e:Ent),ops[i]?=some o->E[i]?=some e->EntOk e o:=fun i o e h1 h2=>(hE i o e h1 h2).1
 have hlt:∀(k:Nat) (e:Ent),E[k]?=some e->k<ops.size:=fun k e hk=>by
  rw[<-hl]
  rcases AX k E.length with h|h
  ·exact h
  ·rw[Au h]at hk;cases hk
 have final:∀(listed:Array Bool) (vals ρa:EB) (a:Act) (w:Ez),(∀k,k<ops.size->listed.getD k false=true)->InvD n E w0 ρ listed vals ρa a w->Q' .normal a w:=fun listed vals ρa a w hall I=>by
  have h:=qnr (vals:=vals) _ _ (fun k _ e hk=>by
   rw[qm]at hk;exact I.φ k (hall k (hlt k e hk)) e hk) (hF w I.ext)
  have he:fr E vals ks (sfr E ρ)=ρa:=by
   funext t
   have:=qhd hd hl hS I E.length ks t (fun k e hk hdt hki=>⟨hall k (hlt k e hk),fun hv=>hks k t e.φ (by
    obtain⟨ed,ev,eφ⟩:=e;simp only at hdt hv;subst hdt hv;rw[qm];exact hk)⟩) (fun k e hk _ _=>by rw[hl];exact hlt k e hk)
   rwa[Bg]at this
  rw[he]at h;exact hQ _ _ _ I.st h
 have nodone:∀(listed:Array Bool),listed.size=ops.size->Region.ready .any ops listed=[]->∀k,k<ops.size->listed.getD k false=true:=fun listed hsz hr k hk=>by
  induction k using Nat.strongRecOn with
  | _ k ih=>
   cases hv:listed.getD k false with
   | true=>rfl
   | false=>
    exfalso
    have hmem:k∈Region.ready .any ops listed:=by
     refine mem_ready.2 ⟨?_,ops[k],Aj hk,fun e he hb=>?_⟩
     ·have:k<listed.size:=by omega
      simp[this]at hv|-;exact hv
     ·rw[qau]at hb;have hp:e.on∈qu ops[k]:=qab.2 ⟨e,by simpa using he,hb,rfl⟩;have h1:=hS.lt k _ (Aj hk) _ hp;exact ih _ h1 Oo
    rw[hr]at hmem;cases hmem
 intro fuel
 induction fuel with
 | zero=>
  intro listed vals ρa a w hsz hc hdc I;have hall:∀k,k<ops.size->listed.getD k false=true:=fun k hk=>by
   have h0:listed.toList.count false=0:=by omega
   have h1:=CG.1 h0;have hk':k<listed.size:=by omega
   cases hv:listed[k]with
   | true=>simp[hk',hv]
   | false=>exact absurd (by rw[<-hv];exact Cg.2 (CL hk')) h1
  refine⟨?_,final listed vals ρa a w hall I⟩;rw[D1];intro j hj;obtain⟨h1,o,ho,_⟩:=mem_ready.1 hj;have h2:=hall j (AS.1 ho).1;have hk':j<listed.size:=by have:=(AS.1 ho).1;omega
  simp[hk']at h1 h2;rw[h1]at h2;cases h2
 | succ fuel ih=>
  intro listed vals ρa a w hsz hc hdc I;refine⟨fun hr=>final listed vals ρa a w (nodone listed hsz hr) I,fun i hi=>?_⟩;obtain⟨hun,o,ho,hall⟩:=mem_ready.1 hi;have hio:i<ops.size:=(AS.1 ho).1;have hiE:i<E.length:=by omega
  obtain⟨hok,hspec⟩:=hE i o E[i] ho (zge hiE);have hpl:∀k∈qu o,listed.getD k false=true:=fun k hk=>by
   obtain⟨e,he,hb,hon⟩:=qab.1 hk;rw[<-hon];exact hall e (by simpa using he) (by rw[qau];exact hb)
  have h:=qnr (vals:=vals) _ _ (fun k hk e he=>by
   rw[qm,Bc,Ad (hS.lt i o ho k hk)]at he;exact I.φ k (hpl k hk) e he) (hspec w I.ext)
  have hag:∀t∈o.looksAt ops,fr (E.take i) vals (qu o) (sfr (E.take i) ρ) t=ρa t:=fun t ht=>by
   have hp:∀(k:Nat) (e:Ent),E[k]?=some e->e.d=some t->k∈qu o\/(i<k/\listed.getD k false≠true):=fun k e hk hdt=>by
    have hk':=hlt k e hk
    rcases hS.look i o k ops[k] t ho (Aj hk') ((hd k _ e (Aj hk') hk).d ▸ hdt) ht with h|h
    ·exact .inl h
    ·refine .inr ⟨hS.lt k _ (Aj hk') i h,fun hl=>?_⟩;have:=hdc k hl _ (Aj hk') i h;have hi':i<listed.size:=by omega
     simp[hi']at hun this;rw[hun]at this;cases this
   exact qhd hd hl hS I i (qu o) t (fun k e hk hdt hki=>by
    rcases hp k e hk hdt with h|h
    ·exact⟨hpl k h,fun _=>h⟩
    ·omega) (fun k e hk hdt hlk=>by
    rcases hp k e hk hdt with h|h
    ·exact hS.lt i o ho k h
    ·exact absurd hlk h.2)
  refine qmy ho hS I.st hag h fun v w' ⟨hx,hφ⟩=>?_;have hgd:∀k,(listed.setIfInBounds i true).getD k false=true->k=i\/(k≠i/\listed.getD k false=true):=fun k hk=>by
   by_cases hki:k=i
   ·exact .inl hki
   ·rw[getD_set_ne false (fun e=>hki e.symm)]at hk;exact .inr ⟨hki,hk⟩
  have hnl:listed.getD i false=false:=by
   have:i<listed.size:=by omega
   simp[this]at hun|-;exact hun
  refine ih _ (fun k=>if k=i then v else vals k) (match o.dst with|some d=>upd ρa d v|none=>ρa) _ _ (by simp[hsz]) (by have:=countP_set listed i hun;omega) (fun k hk o' ho' j hj=>by
   have hset:∀j,listed.getD j false=true->(listed.setIfInBounds i true).getD j false=true:=fun j hj=>by
    by_cases hji:j=i
    ·subst hji;rw[hnl]at hj;cases hj
    ·rw[getD_set_ne false (fun e=>hji e.symm)];exact hj
   rcases hgd k hk with rfl|⟨hki,hk⟩
   ·rw[ho]at ho';cases ho';exact hset j (hpl j hj)
   ·exact hset j (hdc k hk o' ho' j hj)) ⟨I.ext.trans hx,?_,?_,?_,?_⟩
  ·cases hdd:o.dst with
   | none=>exact I.st
   | some d=>exact I.st.put (hS.dn i o ho d hdd) v
  ·intro k hk e he
   rcases hgd k hk with rfl|⟨hki,hk⟩
   ·rw[zge hiE]at he;cases he
    simpa using hφ
   ·simp only[Aa hki];have hk':=hlt k e he;exact(hd k _ e (Aj hk') he).st _ _ _ (I.φ k hk e he) hx
  ·intro k hk e d he hdd
   rcases hgd k hk with rfl|⟨hki,hk⟩
   ·rw[zge hiE]at he;cases he;rw[hok.d]at hdd;simp[hdd,qet]
   ·simp only[Aa hki];have hk':=hlt k e he;have hd2:=(hd k _ e (Aj hk') he).d;cases ho2:o.dst with
    | none=>exact I.at_ k hk e d he hdd
    | some d2=>
     have hne:d≠d2:=by
      rintro rfl;exact hki (hS.uniq i o k _ d ho (Aj hk') (hd2 ▸ hdd) ho2)
     simp only;rw[qaq _ _ _ _ hne];exact I.at_ k hk e d he hdd
  ·intro t ht;have h1:ρa t=ρ t:=I.miss t fun k hk e he=>ht k (by
    by_cases hki:k=i
    ·subst hki;rw[hnl]at hk;cases hk
    ·rw[getD_set_ne false (fun e=>hki e.symm)];exact hk) e he
   cases ho2:o.dst with
   | none=>exact h1
   | some d2=>
    have hne:t≠d2:=by
     rintro rfl;refine ht i ?_ E[i] (zge hiE) (by rw[hok.d,ho2]);have:i<listed.size:=by omega
     simp[this]
    simp only;rw[qaq _ _ _ _ hne];exact h1
end
theorem DrawV.freeW{n:Nat}{Q:Exit->EB->EC}(hm:P.follows .mixedOrders=true)(hB:qr7 n ops=true)(h:regD P ops.toList w.drew (fun ρ' w'=>Q .normal ρ' w') ops.toList 0 [] ρ):DrawV P n id ops Q ρ w:=by
 refine⟨fun a ha=>wp_region_any hm ?_⟩;obtain⟨E,h1,h2,h3⟩:=qkj ops.toList [] [] ρ (fun k=>rfl) h;refine ql9 (Q:=fun ρ' w'=>Q .normal ρ' w') (E:=E) (w0:=w.drew) (ρ:=ρ) (fun ρ a w h1 h2=>⟨ρ,h1,h2⟩) (qlz hB) (by simpa using h1) (fun i o e ho he=>?_) (by simpa using h3) _ _ (fun _=>undef) ρ a _ Js Js (fun k hk=>by rw[qc]at hk;cases hk) ⟨xr,ha,?_,?_,fun t _=>rfl⟩
 ·have:=h2 i o e (by simpa using ho) he
  simpa using this
 ·intro k hk;rw[qc]at hk;cases hk
 ·intro k hk;rw[qc]at hk;cases hk
end V
def VecP(w:Ez)(V s:E8)(l:LB)(k:Nat):Prop:=
 ((k=0\/tVec l k=false)/\V=.pointer none)\/(0<k/\tVec l k=true/\∃vb,V=pp vb/\w.heap[vb]?=some (vecO 295 s (vNum l k) (vNum l (k-1))))
structure LvAt(w:Ez)(b:Nat)(l:LB)(k:Nat):Prop where
 h:∃P cp S cs V,CellsAt w b (8*k) [ii (vNum l k),ii (tw l k),ii (tvAt l k),ii (tvAt l k+1:Nat),ii (tEnd l k),.slice P (qv l k).length cp,.slice S (qg l k).length cs,V]/\
  SlAt encB 1 w P (qv l k)/\SlAt encB 1 w S (qg l k)/\(qg l k).length<=cs/\VecP w V (.slice S (qg l k).length cs) l k
theorem VecP.ext{V s:E8}(h:VecP w V s l k)(he:Ext w w'):VecP w' V s l k:=by
 rcases h with h|⟨h1,h2,vb,h3,h4⟩
 ·exact .inl h
 ·exact .inr ⟨h1,h2,vb,h3,he.get h4⟩
theorem LvAt.ext(h:LvAt w b l k)(he:Ext w w'):LvAt w' b l k:=by
 obtain⟨P,cp,S,cs,V,h1,h2,h3,h4,h5⟩:=h;exact⟨P,cp,S,cs,V,h1.ext he,h2.ext he,h3.ext he,h4,h5.ext he⟩
structure TreeAt(w:Ez)(b:Nat)(l:LB):Prop where
 lv:∀k,k<4->LvAt w b l k
 n:∀k,k<4->vNum l k<=1048576
 wd:∀k,k<4->tw l k<=23
theorem TreeAt.ext(h:TreeAt w b l)(he:Ext w w'):TreeAt w' b l:=⟨fun k hk=>(h.lv k hk).ext he,h.n,h.wd⟩
def tF0(j:Nat):E8:=if j%8<5 then ii 0 else if j%8<7 then .slice none 0 0 else .pointer none
def TVwR(l:LB)(v:E8)(w0 w:Ez):Prop:=
 ((tE l).2≠0/\∃e,v=.tuple #[.pointer none,e]/\ErrAt w e (tE l).1 (tE l).2)\/
 ((tE l).2=0/\∃b,v=.tuple #[pp b,.nilIface]/\w0.heap.size<=b/\TreeAt w b l)
def tPV(A:oA)(c:Nat)(l:LB)(k:Nat):E8:=.slice (if c=tvAt l k+1 then A else A.map (·.add ((tvAt l k+1)*1))) (tEnd l k-(tvAt l k+1)) (c-(tvAt l k+1))
def tSV(A:oA)(c:Nat)(l:LB)(k:Nat):E8:=.slice (if c=tEnd l k then A else A.map (·.add (tEnd l k*1))) (tvAt l (k+1)-tEnd l k) (c-tEnd l k)
def VecM(L:ED)(V s:E8)(l:LB)(k:Nat):Prop:=
 ((k=0\/tVec l k=false)/\V=.pointer none)\/(0<k/\tVec l k=true/\∃vb,V=pp vb/\(vb,vecO 295 s (vNum l k) (vNum l (k-1)))∈L)
structure LvF(L:ED)(A:oA)(c:Nat)(l:LB)(F:EB)(j:Nat):Prop where
 f1:F (8*j+1)=ii (tw l j)
 f2:F (8*j+2)=ii (tvAt l j)
 f3:F (8*j+3)=ii (tvAt l j+1:Nat)
 f4:F (8*j+4)=ii (tEnd l j)
 f5:F (8*j+5)=tPV A c l j
 f6:F (8*j+6)=tSV A c l j
 f7:VecM L (F (8*j+7)) (tSV A c l j) l j
theorem LvF.same{F G:EB}(h:LvF L A c l F j)(hs:∀i,i<8->G (8*j+i)=F (8*j+i)):LvF L A c l G j:=
 ⟨by rw[hs 1 Oo];exact h.f1,by rw[hs 2 Oo];exact h.f2,by rw[hs 3 Oo];exact h.f3,by rw[hs 4 Oo];exact h.f4,by rw[hs 5 Oo];exact h.f5,by rw[hs 6 Oo];exact h.f6,by rw[hs 7 Oo];exact h.f7⟩
theorem VecM.more{x:Nat×Obj}{V s:E8}(h:VecM L V s l k):VecM (x::L) V s l k:=by
 rcases h with h|⟨h1,h2,vb,h3,h4⟩
 ·exact .inl h
 ·exact .inr ⟨h1,h2,vb,h3,zmc h4⟩
theorem LvF.more{x:Nat×Obj}{F:EB}(h:LvF L A c l F j):LvF (x::L) A c l F j:=⟨h.f1,h.f2,h.f3,h.f4,h.f5,h.f6,h.f7.more⟩
def twoF(G:EB)(i j:Nat)(p q:E8)(a b:Bool):Nat->E8:=fun x=>if x=i then(bif a then p else G x)else if x=j then(bif b then q else G x)else G x
theorem qpy(G:EB)(i j:Nat)(p q:E8)(a b:Bool):updF (twoF G i j p q a b) i p=twoF G i j p q true b:=by
 funext x
 by_cases h:x=i
 ·subst h;simp[updF,twoF]
 ·simp[updF,twoF,h]
theorem qw5(G:EB)(i j:Nat)(p q:E8)(a b:Bool)(hij:j≠i):updF (twoF G i j p q a b) j q=twoF G i j p q a true:=by
 funext x
 by_cases h:x=j
 ·subst h;simp[updF,twoF,hij]
 ·simp[updF,twoF,h]
theorem qug(G:EB)(i j:Nat)(p q:E8):twoF G i j p q false false=G:=by
 funext x
 simp[twoF]
theorem qah(G:EB)(i j:Nat)(p q:E8)(a b:Bool)(x:Nat)(h1:x≠i)(h2:x≠j):twoF G i j p q a b x=G x:=by simp[twoF,h1,h2]
theorem q8o(h:(tvF l k).2=0):tvAt l k<l.length/\tw l k<=23/\tvAt l (k+1)<=l.length:=by
 rw[tvF]at h
 split at h
 ·cases h
 split at h
 ·cases h
 split at h
 ·cases h
 ·omega
theorem q8n(h:(tcF l k).2=0):vNum l k<=1048576:=by
 rw[tcF]at h
 split at h
 ·rename_i h0;exact absurd h h0
 ·rename_i h0
  unfold numE at h0
  split at h0
  ·rename_i h1;exact absurd h1 h0
  ·split at h0
   ·exact absurd Js h0
   ·omega
theorem q61(h:(tcF l k).2=0)(hk:0<k):vNum l (k-1)<=vNum l k:=by
 rw[tcF]at h
 split at h
 ·rename_i h0;exact absurd h h0
 ·split at h
  ·cases h
  ·omega
theorem q3p(l:LB)(A:oA)(c:Nat)(w:Ez)(hS:SlAt encB 1 w A l)(hc:l.length<=c)(hl:l.length<=140737488355328):
  Gv EG 88 [.slice A l.length c] w fun v w'=>TVwR l v w w'/\Ext w w':=by
 have hv0:BS w (.slice A l.length c) l:=⟨A,c,rfl,hc,hS⟩
 refine ze Tryz.func88 Tryz.ntmps88 ?_;refine znm (Mem.nil w) ?_;intro tb w1 hm;have hm:Mem w w1 [(tb,.cells (fnA 32 tF0) 232)]:=hm;(conv=>whnf);refine zcv (qem _ l w1 (hv0.ext hm.ext)) ?_;rintro v w2 ⟨cb,rfl,hcb,hco,he2⟩;have hm:Mem w w2 [(cb,curO 288 (.slice A l.length c) 0 0),(tb,.cells (fnA 32 tF0) 232)]:=hm.fresh he2 hcb hco;(conv=>whnf);refine zcv (qt9 l _ tb cb tF0 w w2 hm hv0 hl) ?_;rintro v w3 (⟨h0,⟨eb,rfl,hec⟩,he⟩|⟨hz,rfl,F1,hF1,hF1b,hm⟩)
 ·refine zu ?_;have hE:tE l=errF (tcF l) 4:=by rw[tE,Ad h0]
  exact⟨.inl ⟨by rw[hE];exact h0,_,rfl,by rw[hE];exact⟨eb,rfl,hec⟩⟩,he⟩
 refine zu ?_;refine zcv (qjj cb _ (vAt l 4) 0 w3 (hm.get mh)) ?_;rintro v w4 ⟨rfl,rfl⟩;have hm:=hm.sub (AP ..);have hz0:(errF (tcF l) 4).2=0:=qaf hz;have ev0:vAt l 4=tvAt l 0:=rfl;rw[ev0];(conv=>whnf);refine qj (fun x:Nat×EB×ED=>[(0,.slice A l.length c),(2,.pointer none),(3,.nilIface),(4,pp tb),(7,ii (tvAt l x.1)),(24,ii x.1)])
  (fun x w'=>x.1<=4/\(∀j,j<x.1->(tvF l j).2=0)/\(∀j,j<4->x.2.1 (8*j)=ii (vNum l j))/\(∀j,j<4->x.1<=j->x.2.1 (8*j+7)=.pointer none)/\(∀j,j<x.1->LvF x.2.2 A c l x.2.1 j)/\Mem w w' ((tb,.cells (fnA 32 x.2.1) 232)::x.2.2)) (fun x=>4-x.1) (0,F1,[])
  fq ⟨by simp,fun j h=>by simp at h,hF1,fun j _ _=>by simp only;rw[hF1b _ Oo];simp only[tF0];rw[Aa Oo,Aa Oo],fun j h=>by simp at h,hm⟩ ?_
 clear hm hF1 hF1b hco;rintro⟨k,F,L⟩ w5 ρ' ⟨k1,hv,hF,hF7,hL,hm⟩;dsimp only at k1 hv hF hF7 hL hm|-;have hn:=fun j hj=>q8n (hz j hj)
 (conv=>whnf)
 (repeat'(first|refine zp ?_|refine zC (fun _=>zw ?_) (fun _=>zw ?_)))
 ·refine zcv (qbw (l.length) 10 _) ?_;rintro r w7 ⟨⟨eb,rfl,hec⟩,he7⟩;have hf:tvF l k=(l.length,10):=by rw[tvF,Ad Oo]
  have hE:=qcj (f:=tvF l) (n:=4) (k:=k) hv Oo (by rw[hf];simp);have hT:tE l=(l.length,10):=by rw[tE,Aa Oo,Ad (by rw[hE,hf];simp),hE,hf]
  (conv=>whnf);exact⟨.inl ⟨by rw[hT];simp,_,rfl,by rw[hT];exact⟨eb,rfl,hec⟩⟩,hm.ext.trans he7⟩
 ·refine ElemV.bs (hS.ext hm.ext) rfl (tvAt l k) rfl Oo ?_;intro eb eo hc1;have hlt:tvAt l k<l.length:=by omega
  have hw:l[tvAt l k].toNat=tw l k:=by rw[tw,Ag,zge hlt];rfl
  have hwb:tw l k<256:=by rw[<-hw];exact qa1 _
  rw[hw]at hc1;(conv=>whnf);refine LoadV.of hc1 (zu ?_);refine StoreV.fn (v:=ii (tvAt l k)) hm (i:=0) rfl (8*k+2) (by try rw[lvSz];dsimp only;omega) Oo rfl fun w6 hm=>zw ?_;refine StoreV.fn (v:=ii (tw l k)) hm (i:=0) rfl (8*k+1) (by try rw[lvSz];dsimp only;omega) Oo rfl fun w7 hm=>zw ?_;refine LoadV.fn (v:=ii (tw l k)) hm (i:=0) rfl (8*k+1) (by rw[lvSz];dsimp only;omega) Oo (by simp[updF]) (zw ?_);refine zC (fun _=>zu ?_) (fun _=>zu ?_)
  ·refine zcv (qbw (tvAt l k) 14 _) ?_;rintro r w7 ⟨⟨eb,rfl,hec⟩,he7⟩;have hf:tvF l k=(tvAt l k,14):=by rw[tvF,Aa Oo,Ad Oo]
   have hE:=qcj (f:=tvF l) (n:=4) (k:=k) hv Oo (by rw[hf];simp);have hT:tE l=(tvAt l k,14):=by rw[tE,Aa Oo,Ad (by rw[hE,hf];simp),hE,hf]
   (conv=>whnf);exact⟨.inl ⟨by rw[hT];simp,_,rfl,by rw[hT];exact⟨eb,rfl,hec⟩⟩,hm.ext.trans he7⟩
  have hw23:tw l k<=23:=by omega
  have hnk:=hn k Oo;have hmul:vNum l k*tw l k<=1048576*23:=BT hnk hw23;obtain⟨f,ef⟩:∃f,f=vNum l k*tw l k:=⟨_,rfl⟩
  have efi:((vNum l k:Nat):Int)*((tw l k:Nat):Int)=(f:Int):=by rw[ef,Dr]
  rw[<-ef]at hmul;have hte0:tEnd l k=tvAt l k+1+(f+7)/8:=by rw[ef];rfl
  have hte:(((tvAt l k:Nat):Int)+1+(((vNum l k:Nat):Int)*((tw l k:Nat):Int)+7)/8)=((tEnd l k:Nat):Int):=by omega
  refine StoreV.fn (v:=ii (((tvAt l k:Nat):Int)+1)) hm (i:=0) rfl (8*k+3) (by try rw[lvSz];dsimp only;omega) Oo rfl fun w8 hm=>zw ?_;obtain⟨F5,eF5⟩:∃F5,F5=updF (updF (updF F (8*k+2) (ii (tvAt l k))) (8*k+1) (ii (tw l k))) (8*k+3) (ii (((tvAt l k:Nat):Int)+1)):=⟨_,rfl⟩
  have hm:Mem w w8 ((tb,.cells (fnA 32 F5) 232)::L):=by rw[eF5];exact hm
  have q3:F5 (8*k+3)=ii (((tvAt l k:Nat):Int)+1):=by rw[eF5];simp[updF]
  have q1:F5 (8*k+1)=ii (tw l k):=by rw[eF5];simp[updF]
  have q0:F5 (8*k)=ii (vNum l k):=by rw[eF5];simp only[updF];rw[Aa Oo,Aa Oo,Aa Oo];exact hF k Oo
  refine DrawV.inv (fun S w'=>Mem w w' ((tb,.cells (fnA 32 (twoF F5 (8*k+4) 1000 (ii (tEnd l k)) undef (S 19) false)) 232)::L)) rfl Jk (by show Mem w w8.drew ((tb,.cells (fnA 32 (twoF F5 (8*k+4) 1000 (ii (tEnd l k)) undef false false)) 232)::L);rw[qug];exact hm.drew) ?_;clear hm;(conv=>whnf);(iterate 4 (refine zi ?_));refine StepI.of (ii (((tvAt l k:Nat):Int)+1)) (fun S wd hk hp hI=>zw ?_) (zw ?_)
  ·refine LoadV.fn (v:=ii (((tvAt l k:Nat):Int)+1)) hI (i:=0) rfl (8*k+3) (by rw[lvSz];dsimp only;omega) Oo (by rw[qah _ _ _ _ _ _ _ _ Oo Oo];exact q3) (zw ?_);exact⟨rfl,hI⟩
  (iterate 3 (refine zi ?_));refine StepI.of (ii (vNum l k)) (fun S wd hk hp hI=>zw ?_) (zw ?_)
  ·refine LoadV.fn (v:=ii (vNum l k)) hI (i:=0) rfl (8*k) (by rw[lvSz];dsimp only;omega) Oo (by rw[qah _ _ _ _ _ _ _ _ Oo Oo];exact q0) (zw ?_);exact⟨rfl,hI⟩
  (iterate 3 (refine zi ?_));refine StepI.of (ii (tw l k)) (fun S wd hk hp hI=>zw ?_) (zw ?_)
  ·refine LoadV.fn (v:=ii (tw l k)) hI (i:=0) rfl (8*k+1) (by rw[lvSz];dsimp only;omega) Oo (by rw[qah _ _ _ _ _ _ _ _ Oo Oo];exact q1) (zw ?_);exact⟨rfl,hI⟩
  (iterate 6 (refine zi ?_));refine StepI.of undef (fun S wd hk hp hI=>?_) (zw ?_)
  ·dsimp only at hI;rw[hk]at hI;(conv=>whnf);rw[hte];refine StoreV.fn (v:=ii (tEnd l k)) hI (i:=0) rfl (8*k+4) (by rw[lvSz];dsimp only;omega) Oo rfl ?_;intro wx hmx;rw[qpy]at hmx;(conv=>whnf);exact⟨rfl,hmx⟩
  intro w10 hm;dsimp only at hm;obtain⟨G,eG⟩:∃G,G=twoF F5 (8*k+4) 1000 (ii (tEnd l k)) undef true false:=⟨_,rfl⟩
  have hm:Mem w w10 ((tb,.cells (fnA 32 G) 232)::L):=by rw[eG];exact hm
  have ge:∀x,x<1000->x≠8*k+1->x≠8*k+2->x≠8*k+3->x≠8*k+4->G x=F x:=fun x h0 h1 h2 h3 h4=>by rw[eG,qah _ _ _ _ _ _ _ _ h4 Oo,eF5,qak _ _ _ _ h3,qak _ _ _ _ h1,qak _ _ _ _ h2]
  have gn:∀j,j<4->G (8*j)=ii (vNum l j):=fun j hj=>by rw[ge _ Oo Oo Oo Oo Oo];exact hF j hj
  have g1:G (8*k+1)=ii (tw l k):=by rw[eG,qah _ _ _ _ _ _ _ _ Oo Oo];exact q1
  have g2:G (8*k+2)=ii (tvAt l k):=by rw[eG,qah _ _ _ _ _ _ _ _ Oo Oo,eF5];simp[updF]
  have g3:G (8*k+3)=ii (tvAt l k+1:Nat):=by rw[eG,qah _ _ _ _ _ _ _ _ Oo Oo];exact q3
  have g4:G (8*k+4)=ii (tEnd l k):=by rw[eG];simp[twoF]
  have g7:∀j,j<4->k<=j->G (8*j+7)=.pointer none:=fun j hj4 hj=>by rw[ge _ Oo Oo Oo Oo Oo];exact hF7 j hj4 hj
  have gL:∀j,j<k->LvF L A c l G j:=fun j hj=>(hL j hj).same fun i hi=>ge _ Oo Oo Oo Oo Oo
  clear ge eG eF5 q0 q1 q3 hF hF7 hL hte;(conv=>whnf);refine LoadV.fn (v:=ii (tEnd l k)) hm (i:=0) rfl (8*k+4) (by rw[lvSz];dsimp only;omega) Oo g4 (zw ?_)
  (repeat' refine zC (fun _=>zw ?_) (fun _=>zw ?_))
  ·have hmo:=q61 (hz k Oo) Oo;have hnk1:=hn (k-1) Oo;have hvl:=qus (vNum l k) (vNum l (k-1)) Oo hmo;have hnx:tvAt l (k+1)=tEnd l k+qch (vNum l k) (vNum l (k-1)):=by rw[qd6,Aa Oo]
   refine DrawV.freeW Jk Jk (zw ?_);(iterate 4 (refine zd ?_));apply zsd
   ·intro wd hd;(conv=>whnf);refine LoadV.fn (v:=ii (vNum l k)) (Mem.call (Mem.drew hm) hd) (i:=0) rfl (8*k) (by rw[lvSz];dsimp only;omega) Oo (gn k Oo) (zw ?_);exact xq
   (conv=>whnf);(iterate 5 (refine zd ?_));apply zsd
   ·intro wd hd;(conv=>whnf);refine IdxV.at_ (k-1) Oo Oo (zw ?_);exact xq
   (conv=>whnf);refine zd ?_;apply zsd
   ·intro wd hd;(conv=>whnf);refine LoadV.fn (v:=ii (vNum l (k-1))) (Mem.call (Mem.drew hm) hd) (i:=0) rfl (8*(k-1)) (by rw[lvSz];dsimp only;omega) Oo (gn (k-1) Oo) (zw ?_);exact xq
   (conv=>whnf);apply zsd
   ·intro wd hd;(conv=>whnf);refine zcv (q24 (vNum l k) (vNum l (k-1)) wd Oo hmo) ?_;rintro v w9 ⟨rfl,h9⟩;exact⟨h9,rfl⟩
   (conv=>whnf);refine zd ?_;refine zd ?_;intro w11 he11
   (repeat(intro _ _;(conv=>whnf)))
   (conv=>whnf);have hm:=hm.drew.call he11;clear he11;have hsum:(((tEnd l k:Nat):Int)+((qch (vNum l k) (vNum l (k-1)):Nat):Int))=((tvAt l (k+1):Nat):Int):=by omega
   rw[hsum];refine zC (fun _=>zw ?_) (fun _=>zw ?_)
   ·refine zcv (qbw (l.length) 10 _) ?_;rintro r w7 ⟨⟨eb,rfl,hec⟩,he7⟩;have hf:tvF l k=(l.length,10):=by rw[tvF,Aa Oo,Aa Oo,Ad Oo]
    have hE:=qcj (f:=tvF l) (n:=4) (k:=k) hv Oo (by rw[hf];simp);have hT:tE l=(l.length,10):=by rw[tE,Aa Oo,Ad (by rw[hE,hf];simp),hE,hf]
    (conv=>whnf);exact⟨.inl ⟨by rw[hT];simp,_,rfl,by rw[hT];exact⟨eb,rfl,hec⟩⟩,hm.ext.trans he7⟩
   have hfz:tvF l k=(0,0):=by rw[tvF,Aa Oo,Aa Oo,Aa Oo]
   have hte3:tvAt l k+1<=tEnd l k:=by omega
   have hte4:tEnd l k<=tvAt l (k+1):=by omega
   have hte5:tvAt l (k+1)<=l.length:=by omega
   obtain⟨w12,ew12⟩:∃w12:Ez,w12=w11:=⟨_,rfl⟩
   rw[<-ew12]at hm|-;refine DrawV.inv (fun S w'=>Mem w w' ((tb,.cells (fnA 32 (twoF G (8*k+5) (8*k+6) (tPV A c l k) (tSV A c l k) (S 21) (S 24))) 232)::L)) rfl Jk (by show Mem w w12.drew ((tb,.cells (fnA 32 (twoF G (8*k+5) (8*k+6) (tPV A c l k) (tSV A c l k) false false)) 232)::L);rw[qug];exact hm.drew) ?_;clear hm ew12;(conv=>whnf);(iterate 6 (refine zi ?_));refine StepI.of (ii (tvAt l k+1:Nat)) (fun S wd hk hp hI=>zw ?_) (zw ?_)
   ·refine LoadV.fn (v:=ii (tvAt l k+1:Nat)) hI (i:=0) rfl (8*k+3) (by rw[lvSz];dsimp only;omega) Oo (by rw[qah _ _ _ _ _ _ _ _ Oo Oo];exact g3) (zw ?_);exact⟨rfl,hI⟩
   (iterate 3 (refine zi ?_));refine StepI.of (ii (tEnd l k)) (fun S wd hk hp hI=>zw ?_) (zw ?_)
   ·refine LoadV.fn (v:=ii (tEnd l k)) hI (i:=0) rfl (8*k+4) (by rw[lvSz];dsimp only;omega) Oo (by rw[qah _ _ _ _ _ _ _ _ Oo Oo];exact g4) (zw ?_);exact⟨rfl,hI⟩
   refine StepI.of (tPV A c l k) (fun S wd hk hp hI=>zw ?_) (zw ?_)
   ·refine SliceV.to (tvAt l k+1) (tEnd l k) c (by show(_:Int)=_;omega) rfl rfl Oo Oo znr (fun h=>by cases h) (zw ?_);exact⟨rfl,hI⟩
   (iterate 4 (refine zi ?_));refine StepI.of (ii (tEnd l k)) (fun S wd hk hp hI=>zw ?_) (zw ?_)
   ·refine LoadV.fn (v:=ii (tEnd l k)) hI (i:=0) rfl (8*k+4) (by rw[lvSz];dsimp only;omega) Oo (by rw[qah _ _ _ _ _ _ _ _ Oo Oo];exact g4) (zw ?_);exact⟨rfl,hI⟩
   refine zi ?_;refine StepI.of (tSV A c l k) (fun S wd hk hp hI=>zw ?_) (zw ?_)
   ·refine SliceV.to (tEnd l k) (tvAt l (k+1)) c rfl (by show(_:Int)=_;omega) rfl Oo Oo znr (fun h=>by cases h) (zw ?_);exact⟨rfl,hI⟩
   refine zi ?_;refine zi ?_;refine StepI.of undef (fun S wd hk hp hI=>?_) (zw ?_)
   ·dsimp only at hI;rw[hk]at hI;(conv=>whnf);refine StoreV.fn (v:=tPV A c l k) hI (i:=0) rfl (8*k+5) (by rw[lvSz];dsimp only;omega) Oo rfl ?_;intro wx hmx;rw[qpy]at hmx;(conv=>whnf);exact⟨rfl,hmx⟩
   refine zi ?_;refine zi ?_;refine StepI.of undef (fun S wd hk hp hI=>?_) (zw ?_)
   ·dsimp only at hI;rw[hk]at hI;(conv=>whnf);refine StoreV.fn (v:=tSV A c l k) hI (i:=0) rfl (8*k+6) (by rw[lvSz];dsimp only;omega) Oo rfl ?_;intro wx hmx;rw[qw5 _ _ _ _ _ _ _ Oo]at hmx;(conv=>whnf);exact⟨rfl,hmx⟩
   intro w13 hm;dsimp only at hm;obtain⟨H,eH⟩:∃H,H=twoF G (8*k+5) (8*k+6) (tPV A c l k) (tSV A c l k) true true:=⟨_,rfl⟩
   rw[<-eH]at hm;have hn':∀j,j<4->H (8*j)=ii (vNum l j):=fun j hj=>by rw[eH,qah _ _ _ _ _ _ _ _ Oo Oo];exact gn j hj
   have h1':H (8*k+1)=ii (tw l k):=by rw[eH,qah _ _ _ _ _ _ _ _ Oo Oo];exact g1
   have h2':H (8*k+2)=ii (tvAt l k):=by rw[eH,qah _ _ _ _ _ _ _ _ Oo Oo];exact g2
   have h3':H (8*k+3)=ii (tvAt l k+1:Nat):=by rw[eH,qah _ _ _ _ _ _ _ _ Oo Oo];exact g3
   have h4':H (8*k+4)=ii (tEnd l k):=by rw[eH,qah _ _ _ _ _ _ _ _ Oo Oo];exact g4
   have h5':H (8*k+5)=tPV A c l k:=by rw[eH];simp[twoF]
   have h6':H (8*k+6)=tSV A c l k:=by rw[eH];simp[twoF]
   have h7':∀j,j<4->k<=j->H (8*j+7)=.pointer none:=fun j hj4 hj=>by rw[eH,qah _ _ _ _ _ _ _ _ Oo Oo];exact g7 j hj4 hj
   have hL':∀j,j<k->LvF L A c l H j:=fun j hj=>(gL j hj).same fun i hi=>by rw[eH,qah _ _ _ _ _ _ _ _ Oo Oo]
   clear eH gn g1 g2 g3 g4 g7 gL;refine zu ?_;have lenB:(qg l k).length=tvAt l (k+1)-tEnd l k:=by rw[qg,AG,zld];omega
   have hSB:SlAt encB 1 w (if c=tEnd l k then A else A.map (·.add (tEnd l k*1))) (qg l k):=hS.cut (m:=c) Oo Oo Oo rfl;refine LoadV.fn (v:=tSV A c l k) hm (i:=0) rfl (8*k+6) (by rw[lvSz];dsimp only;omega) Oo h6' (zw ?_);have hvv:=q34 (qg l k) _ (c-tEnd l k) w13 (hSB.ext hm.ext) (by rw[lenB];omega) (by rw[lenB];omega);rw[lenB]at hvv;refine zcv (hvv) ?_;rintro r w14 ⟨⟨h0,e,q1,q2,rfl,eb2,rfl,hec2⟩|⟨h1,vb,rfl,hvb,hvo⟩,he14⟩
   ·have hm:=hm.call he14;(conv=>whnf);refine zy ?_;have hm:=hm.drew;refine zv ?_;refine⟨(k+1,H,L),⟨rfl,rfl,rfl,rfl,(by show _=ii ((tvAt l (k+1):Nat):Int);exact Af (Value.int .i64) Oo),rfl,trivial⟩,⟨by simp only;omega,fun j hj=>?_,hn',fun j hj4 hj=>h7' j hj4 (by simp only at hj;omega),fun j hj=>?_,hm⟩,by simp only;omega⟩
    ·by_cases e:j=k
     ·subst e;rw[hfz]
     ·exact hv j (by simp only at hj;omega)
    ·by_cases e:j=k
     ·subst e;exact⟨h1',h2',h3',h4',h5',h6',.inl ⟨.inr (by rw[tVec,h0];rfl),h7' j Oo znr⟩⟩
     ·exact hL' j (by simp only at hj;omega)
   ·have hm0:=hm.fresh he14 hvb hvo;have hm:Mem w w14 ((tb,.cells (fnA 32 H) 232)::(vb,vecO 295 (tSV A c l k) (vN (qg l k)) (vM (qg l k)))::L):=hm0.perm (List.Perm.swap ..);clear hm0;(conv=>whnf);refine zy ?_;have hm:=hm.drew;refine zv ?_;refine⟨ii (vN (qg l k)),q7e _ _ _ _ _ (hm.get (zmc mh)),?_⟩;refine zu ?_;refine LoadV.fn (v:=ii (vNum l k)) hm (i:=0) rfl (8*k) (by rw[lvSz];dsimp only;omega) Oo (hn' k Oo) (zw ?_);refine zt ?_;refine zC (fun _=>zu ?_) (fun _=>zu ?_)
    ·refine⟨ii (vM (qg l k)),q3y _ _ _ _ _ (hm.get (zmc mh)),?_⟩;refine zu ?_;refine IdxV.at_ (k-1) Oo Oo (zu ?_);refine LoadV.fn (v:=ii (vNum l (k-1))) hm (i:=0) rfl (8*(k-1)) (by rw[lvSz];dsimp only;omega) Oo (hn' (k-1) Oo) (zw ?_);refine zt ?_;refine zC (fun _=>zu ?_) (fun _=>zu ?_)
     ·refine StoreV.fn (v:=pp vb) hm (i:=0) rfl (8*k+7) (by rw[lvSz];dsimp only;omega) Oo rfl ?_;intro w15 hm;have e1:vN (qg l k)=vNum l k:=by omega
      have e2:vM (qg l k)=vNum l (k-1):=by omega
      rw[e1,e2]at hm;have htv:tVec l k=true:=by rw[tVec,h1,Az e1,Az e2];rfl
      refine zu ?_;refine⟨(k+1,updF H (8*k+7) (pp vb),(vb,vecO 295 (tSV A c l k) (vNum l k) (vNum l (k-1)))::L),⟨rfl,rfl,rfl,rfl,(by show _=ii ((tvAt l (k+1):Nat):Int);exact Af (Value.int .i64) Oo),rfl,trivial⟩,⟨by simp only;omega,fun j hj=>?_,fun j hj=>?_,fun j hj4 hj=>?_,fun j hj=>?_,hm⟩,by simp only;omega⟩
      ·by_cases e:j=k
       ·subst e;rw[hfz]
       ·exact hv j (by simp only at hj;omega)
      ·simp only;rw[qak _ _ _ _ Oo];exact hn' j hj
      ·simp only at hj|-;rw[qak _ _ _ _ Oo];exact h7' j hj4 Oo
      ·by_cases e:j=k
       ·subst e;refine⟨?_,?_,?_,?_,?_,?_,.inr ⟨by omega,htv,vb,qg1 _ _ _,AK ..⟩⟩
        ·simp only;rw[qak _ _ _ _ Oo];exact h1'
        ·simp only;rw[qak _ _ _ _ Oo];exact h2'
        ·simp only;rw[qak _ _ _ _ Oo];exact h3'
        ·simp only;rw[qak _ _ _ _ Oo];exact h4'
        ·simp only;rw[qak _ _ _ _ Oo];exact h5'
        ·simp only;rw[qak _ _ _ _ Oo];exact h6'
       ·exact((hL' j (by simp only at hj;omega)).same fun i hi=>by simp only;rw[qak _ _ _ _ Oo]).more
     ·have hm:=hm.sub (List.Sublist.cons_cons _ (AP ..));have nv:tVec l k=false:=by rw[tVec,AH (show ¬vM (qg l k)=vNum l (k-1)by omega),D2]
      refine⟨(k+1,H,L),⟨rfl,rfl,rfl,rfl,(by show _=ii ((tvAt l (k+1):Nat):Int);exact Af (Value.int .i64) Oo),rfl,trivial⟩,⟨by simp only;omega,fun j hj=>?_,hn',fun j hj4 hj=>h7' j hj4 (by simp only at hj;omega),fun j hj=>?_,hm⟩,by simp only;omega⟩
      ·by_cases e:j=k
       ·subst e;rw[hfz]
       ·exact hv j (by simp only at hj;omega)
      ·by_cases e:j=k
       ·subst e;exact⟨h1',h2',h3',h4',h5',h6',.inl ⟨.inr nv,h7' j Oo znr⟩⟩
       ·exact hL' j (by simp only at hj;omega)
    ·have hm:=hm.sub (List.Sublist.cons_cons _ (AP ..));have nv:tVec l k=false:=by rw[tVec,AH (show ¬vN (qg l k)=vNum l k by omega),D2];rfl
     refine⟨(k+1,H,L),⟨rfl,rfl,rfl,rfl,(by show _=ii ((tvAt l (k+1):Nat):Int);exact Af (Value.int .i64) Oo),rfl,trivial⟩,⟨by simp only;omega,fun j hj=>?_,hn',fun j hj4 hj=>h7' j hj4 (by simp only at hj;omega),fun j hj=>?_,hm⟩,by simp only;omega⟩
     ·by_cases e:j=k
      ·subst e;rw[hfz]
      ·exact hv j (by simp only at hj;omega)
     ·by_cases e:j=k
      ·subst e;exact⟨h1',h2',h3',h4',h5',h6',.inl ⟨.inr nv,h7' j Oo znr⟩⟩
      ·exact hL' j (by simp only at hj;omega)
  ·have hk0:k=0:=by omega
   have hnx:tvAt l (k+1)=tEnd l k:=by rw[qd6,Ad hk0];rfl
   refine zcv (qbw (l.length) 10 _) ?_;rintro r w7 ⟨⟨eb,rfl,hec⟩,he7⟩;have hf:tvF l k=(l.length,10):=by rw[tvF,Aa Oo,Aa Oo,Ad Oo]
   have hE:=qcj (f:=tvF l) (n:=4) (k:=k) hv Oo (by rw[hf];simp);have hT:tE l=(l.length,10):=by rw[tE,Aa Oo,Ad (by rw[hE,hf];simp),hE,hf]
   (conv=>whnf);exact⟨.inl ⟨by rw[hT];simp,_,rfl,by rw[hT];exact⟨eb,rfl,hec⟩⟩,hm.ext.trans he7⟩
  have hk0:k=0:=by omega
  have hnx:tvAt l (k+1)=tEnd l k:=by rw[qd6,Ad hk0];rfl
  have hfz:tvF l k=(0,0):=by rw[tvF,Aa Oo,Aa Oo,Aa Oo]
  have hte3:tvAt l k+1<=tEnd l k:=by omega
  have hte4:tEnd l k<=tvAt l (k+1):=by omega
  have hte5:tvAt l (k+1)<=l.length:=by omega
  obtain⟨w12,ew12⟩:∃w12:Ez,w12=w10:=⟨_,rfl⟩
  rw[<-ew12]at hm|-;refine DrawV.inv (fun S w'=>Mem w w' ((tb,.cells (fnA 32 (twoF G (8*k+5) (8*k+6) (tPV A c l k) (tSV A c l k) (S 21) (S 24))) 232)::L)) rfl Jk (by show Mem w w12.drew ((tb,.cells (fnA 32 (twoF G (8*k+5) (8*k+6) (tPV A c l k) (tSV A c l k) false false)) 232)::L);rw[qug];exact hm.drew) ?_;clear hm ew12;(conv=>whnf);(iterate 6 (refine zi ?_));refine StepI.of (ii (tvAt l k+1:Nat)) (fun S wd hk hp hI=>zw ?_) (zw ?_)
  ·refine LoadV.fn (v:=ii (tvAt l k+1:Nat)) hI (i:=0) rfl (8*k+3) (by rw[lvSz];dsimp only;omega) Oo (by rw[qah _ _ _ _ _ _ _ _ Oo Oo];exact g3) (zw ?_);exact⟨rfl,hI⟩
  (iterate 3 (refine zi ?_));refine StepI.of (ii (tEnd l k)) (fun S wd hk hp hI=>zw ?_) (zw ?_)
  ·refine LoadV.fn (v:=ii (tEnd l k)) hI (i:=0) rfl (8*k+4) (by rw[lvSz];dsimp only;omega) Oo (by rw[qah _ _ _ _ _ _ _ _ Oo Oo];exact g4) (zw ?_);exact⟨rfl,hI⟩
  refine StepI.of (tPV A c l k) (fun S wd hk hp hI=>zw ?_) (zw ?_)
  ·refine SliceV.to (tvAt l k+1) (tEnd l k) c (by show(_:Int)=_;omega) rfl rfl Oo Oo znr (fun h=>by cases h) (zw ?_);exact⟨rfl,hI⟩
  (iterate 4 (refine zi ?_));refine StepI.of (ii (tEnd l k)) (fun S wd hk hp hI=>zw ?_) (zw ?_)
  ·refine LoadV.fn (v:=ii (tEnd l k)) hI (i:=0) rfl (8*k+4) (by rw[lvSz];dsimp only;omega) Oo (by rw[qah _ _ _ _ _ _ _ _ Oo Oo];exact g4) (zw ?_);exact⟨rfl,hI⟩
  refine zi ?_;refine StepI.of (tSV A c l k) (fun S wd hk hp hI=>zw ?_) (zw ?_)
  ·refine SliceV.to (tEnd l k) (tvAt l (k+1)) c rfl (by show(_:Int)=_;omega) rfl Oo Oo znr (fun h=>by cases h) (zw ?_);exact⟨rfl,hI⟩
  refine zi ?_;refine zi ?_;refine StepI.of undef (fun S wd hk hp hI=>?_) (zw ?_)
  ·dsimp only at hI;rw[hk]at hI;(conv=>whnf);refine StoreV.fn (v:=tPV A c l k) hI (i:=0) rfl (8*k+5) (by rw[lvSz];dsimp only;omega) Oo rfl ?_;intro wx hmx;rw[qpy]at hmx;(conv=>whnf);exact⟨rfl,hmx⟩
  refine zi ?_;refine zi ?_;refine StepI.of undef (fun S wd hk hp hI=>?_) (zw ?_)
  ·dsimp only at hI;rw[hk]at hI;(conv=>whnf);refine StoreV.fn (v:=tSV A c l k) hI (i:=0) rfl (8*k+6) (by rw[lvSz];dsimp only;omega) Oo rfl ?_;intro wx hmx;rw[qw5 _ _ _ _ _ _ _ Oo]at hmx;(conv=>whnf);exact⟨rfl,hmx⟩
  intro w13 hm;dsimp only at hm;obtain⟨H,eH⟩:∃H,H=twoF G (8*k+5) (8*k+6) (tPV A c l k) (tSV A c l k) true true:=⟨_,rfl⟩
  rw[<-eH]at hm;have hn':∀j,j<4->H (8*j)=ii (vNum l j):=fun j hj=>by rw[eH,qah _ _ _ _ _ _ _ _ Oo Oo];exact gn j hj
  have h1':H (8*k+1)=ii (tw l k):=by rw[eH,qah _ _ _ _ _ _ _ _ Oo Oo];exact g1
  have h2':H (8*k+2)=ii (tvAt l k):=by rw[eH,qah _ _ _ _ _ _ _ _ Oo Oo];exact g2
  have h3':H (8*k+3)=ii (tvAt l k+1:Nat):=by rw[eH,qah _ _ _ _ _ _ _ _ Oo Oo];exact g3
  have h4':H (8*k+4)=ii (tEnd l k):=by rw[eH,qah _ _ _ _ _ _ _ _ Oo Oo];exact g4
  have h5':H (8*k+5)=tPV A c l k:=by rw[eH];simp[twoF]
  have h6':H (8*k+6)=tSV A c l k:=by rw[eH];simp[twoF]
  have h7':∀j,j<4->k<=j->H (8*j+7)=.pointer none:=fun j hj4 hj=>by rw[eH,qah _ _ _ _ _ _ _ _ Oo Oo];exact g7 j hj4 hj
  have hL':∀j,j<k->LvF L A c l H j:=fun j hj=>(gL j hj).same fun i hi=>by rw[eH,qah _ _ _ _ _ _ _ _ Oo Oo]
  clear eH gn g1 g2 g3 g4 g7 gL;refine zu ?_;refine⟨(k+1,H,L),⟨rfl,rfl,rfl,rfl,(by show _=ii ((tvAt l (k+1):Nat):Int);exact Af (Value.int .i64) Oo),rfl,trivial⟩,⟨by simp only;omega,fun j hj=>?_,hn',fun j hj4 hj=>h7' j hj4 (by simp only at hj;omega),fun j hj=>?_,hm⟩,by simp only;omega⟩
  ·by_cases e:j=k
   ·subst e;rw[hfz]
   ·exact hv j (by simp only at hj;omega)
  ·by_cases e:j=k
   ·subst e;exact⟨h1',h2',h3',h4',h5',h6',.inl ⟨.inl hk0,h7' j Oo znr⟩⟩
   ·exact hL' j (by simp only at hj;omega)
 ·obtain rfl:k=4:=by omega
  have hT:tE l=(tvAt l 4,13):=by
   have:=qaf hv;rw[tE,Aa Oo,Aa Oo,Ad Oo]
  refine zcv (qbw (tvAt l 4) 13 _) ?_;rintro r w7 ⟨⟨eb,rfl,hec⟩,he7⟩;(conv=>whnf);exact⟨.inl ⟨by rw[hT];simp,_,rfl,by rw[hT];exact⟨eb,rfl,hec⟩⟩,hm.ext.trans he7⟩
 ·obtain rfl:k=4:=by omega
  have hT:tE l=(0,0):=by
   have:=qaf hv;rw[tE,Aa Oo,Aa Oo,Aa Oo]
  obtain⟨o1,o2⟩:=hm.own _ mh;refine⟨.inr ⟨by rw[hT],tb,rfl,o1,⟨fun j hj=>?_,fun j hj=>q8n (hz j hj),fun j hj=>(q8o (hv j hj)).2.1⟩⟩,hm.ext⟩;obtain⟨z1,z2,z3⟩:=q8o (hv j hj);have hLj:=hL j hj;have t1:tvAt l j+1<=tEnd l j:=by show _<=tvAt l j+1+_;omega
  have t2:tEnd l j<=tvAt l (j+1):=by rw[qd6];omega
  have lenP:(qv l j).length=tEnd l j-(tvAt l j+1):=by rw[qv,AG,zld];omega
  have lenB:(qg l j).length=tvAt l (j+1)-tEnd l j:=by rw[qg,AG,zld];omega
  have hSP:SlAt encB 1 w (if c=tvAt l j+1 then A else A.map (·.add ((tvAt l j+1)*1))) (qv l j):=hS.cut (m:=c) Oo Oo Oo rfl;have hSB:SlAt encB 1 w (if c=tEnd l j then A else A.map (·.add (tEnd l j*1))) (qg l j):=hS.cut (m:=c) Oo Oo Oo rfl;refine⟨⟨_,c-(tvAt l j+1),_,c-tEnd l j,F (8*j+7),?_,hSP.ext hm.ext,hSB.ext hm.ext,by rw[lenB];omega,?_⟩⟩
  ·intro i v hiv;rw[qa o2];have hi8:i<8:=(Ae.1 hiv).1;rw[qdd 32 F _ Oo];rw[lenP,lenB]at hiv
   match i,hi8 with
   | 0,_=>rw[<-hiv];exact Af some (hF j hj)
   | 1,_=>rw[<-hiv];exact Af some hLj.f1
   | 2,_=>rw[<-hiv];exact Af some hLj.f2
   | 3,_=>rw[<-hiv];exact Af some hLj.f3
   | 4,_=>rw[<-hiv];exact Af some hLj.f4
   | 5,_=>rw[<-hiv];exact Af some hLj.f5
   | 6,_=>rw[<-hiv];exact Af some hLj.f6
   | 7,_=>rw[<-hiv];rfl
  ·rw[lenB]
   rcases hLj.f7 with h|⟨h1,h2,vb,h3,h4⟩
   ·exact .inl h
   ·exact .inr ⟨h1,h2,vb,h3,hm.get (zmc h4)⟩
theorem V.LoadV.cellsE{o:Nat}{v:E8}{K:E8->Prop}(h:CellsAt w b o vs)(j:Nat)(e:off=o+j)(hv:vs[j]?=some v)(hk:K v):LoadV w b off K:=by
 subst e;exact LoadV.cells h j hv hk
theorem q63(b:Nat)(l:LB)(w:Ez)(h:TreeAt w b l):Gv EG 204 [pp b] w fun r w'=>r=ii (vNum l 3)/\w'=w:=by
 obtain⟨P3,cp3,S3,cs3,V3,hc3,hP3,hS3,hl3,hv3⟩:=(h.lv 3 Oo).h;refine ze Tryz.func204 Tryz.ntmps204 ?_;refine zJ 3 ?_;(conv=>whnf);refine LoadV.cellsE hc3 0 (by rw[lvSz];first|done|rfl) rfl (zw ?_);exact⟨rfl,rfl⟩
def zq:EH:=#[ii 0,ii 0,ii 0,ii 0]
def qge(l:LB)(i:Nat):E8:=
 if i<vNum l 3/\tOk l i=true then .tuple #[.agg #[ii (tNum l i 0),ii (tNum l i 1),ii (tNum l i 2),ii (tNum l i 3)],.bool true]else .tuple #[.agg zq,.bool false]
theorem qep(h:¬tOk l i=true):qge l i=.tuple #[.agg zq,.bool false]:=by rw[qge,Aa fun hx=>h hx.2]
theorem qeq(h:tOk l i=true)(j:Nat)(hj:j<4):qe2 l i j=true:=by
 simp only[tOk,AJ]at h;obtain⟨⟨⟨h0,h1⟩,h2⟩,h3⟩:=h
 match j,hj with
 | 0,_=>exact h0
 | 1,_=>exact h1
 | 2,_=>exact h2
 | 3,_=>exact h3
theorem qab7(l:LB)(i j k:Nat)(h:k=3-j):qel (qg l k) (tUp l i j)=tUp l i (j+1):=by subst h;rw[tUp]
def tI(l:LB)(i:Nat):Nat->Nat
 | 4=>tUp l i 3
 | j=>tUp l i j
def kv:Nat->Int
 | 0=>3
 | 1=>2
 | 2=>1
 | 3=>0
 | _=>-1
def qL(l:LB)(i j:Nat):EE:=[ii (if 3<j then tNum l i 0 else 0:Nat),ii (if 2<j then tNum l i 1 else 0:Nat),ii (if 1<j then tNum l i 2 else 0:Nat),ii (if 0<j then tNum l i 3 else 0:Nat)]
theorem q62(b:Nat)(l:LB)(i:Nat)(w:Ez)(h:TreeAt w b l)(hi:i<=1048576):Gv EG 146 [pp b,ii i] w fun v w'=>v=qge l i/\Ext w w':=by
 obtain⟨P0,cp0,S0,cs0,V0,hc0,hP0,hS0,hl0,hv0⟩:=(h.lv 0 Oo).h;obtain⟨P1,cp1,S1,cs1,V1,hc1,hP1,hS1,hl1,hv1⟩:=(h.lv 1 Oo).h;obtain⟨P2,cp2,S2,cs2,V2,hc2,hP2,hS2,hl2,hv2⟩:=(h.lv 2 Oo).h;obtain⟨P3,cp3,S3,cs3,V3,hc3,hP3,hS3,hl3,hv3⟩:=(h.lv 3 Oo).h;refine ze Tryz.func146 Tryz.ntmps146 ?_;refine znm (Mem.nil w) fun rb w1 hm=>zu ?_;refine zcv (q63 b l w1 (h.ext hm.ext)) ?_;rintro r w2 ⟨rfl,rfl⟩;(conv=>whnf);refine zt ?_;refine zC (fun _=>zw ?_) (fun _=>zw ?_)
 ·refine StoreA.all hm (i:=0) rfl rfl Od fun w9 hm=>zw ?_;refine qh (R:=fun v w'=>v=qge l i/\Ext w w') (zw ?_);refine zl hm 0 ?_;exact⟨by rw[qge,Aa (fun hx=>by omega)];rfl,hm.ext⟩
 have hi3:i<vNum l 3:=by omega
 refine znm hm fun qb w3 hm=>zw ?_;refine qj (fun j:Nat=>[(0,pp b),(1,ii (tI l i j)),(4,pp rb),(5,.bool false),(6,pp qb),(7,ii (kv j))])
  (fun j w'=>j<=4/\(∀m,m<j->qe2 l i m=true)/\Mem w w' [(qb,.cells (qL l i j).toArray 101),(rb,.cells zq 101)]) (fun j=>4-j) 0 fq ⟨by omega,fun m hm=>by omega,hm⟩ ?_
 clear hm;rintro j w4 ρ' ⟨j1,hf,hm⟩;obtain rfl|rfl|rfl|rfl|rfl:j=0\/j=1\/j=2\/j=3\/j=4:=by omega
 ·have hn3:=h.n 3 Oo;have hkv:kv 0=3:=rfl;obtain⟨y,ey0⟩:∃y,y=tI l i 0:=⟨_,rfl⟩
  rw[<-ey0];have ey:y=tUp l i 0:=ey0;(conv=>whnf);refine zt ?_;refine zJ 3 ?_;(conv=>whnf);refine LoadV.cellsE (hc3.ext hm.ext) 0 (by rw[lvSz];first|done|rfl) rfl (zw ?_);refine zC (fun _=>zu ?_) (fun _=>zu ?_)
  ·refine StoreA.all hm (i:=1) rfl rfl Od fun w9 hm=>zw ?_;refine qh (R:=fun v w'=>v=qge l i/\Ext w w') (zw ?_);refine zl hm 1 ?_;exact⟨by rw[qep (fun hq=>by have hq2:=qeq hq 0 Oo;have e:qe2 l i 0=(decide (y<vNum l 3)&&(decide (0=3)||tVec l 3)):=(by subst ey;rfl);rw[e,AH (show ¬y<vNum l 3 by omega)]at hq2;simp at hq2)];rfl,hm.ext⟩
  rcases hv3 with⟨hx|hx,rfl⟩|⟨_,htv,vb,rfl,hvo⟩
  ·omega
  ·refine LoadV.cellsE (hc3.ext hm.ext) 7 (by rw[lvSz];first|done|rfl) rfl (zu ?_);refine StoreA.all hm (i:=1) rfl rfl Od fun w9 hm=>zw ?_;refine qh (R:=fun v w'=>v=qge l i/\Ext w w') (zw ?_);refine zl hm 1 ?_;exact⟨by rw[qep (fun hq=>by have hq2:=qeq hq 0 Oo;have e:qe2 l i 0=(decide (y<vNum l 3)&&(decide (0=3)||tVec l 3)):=(by subst ey;rfl);rw[e,show tVec l 3=false from hx]at hq2;simp at hq2)];rfl,hm.ext⟩
  refine LoadV.cellsE (hc3.ext hm.ext) 7 (by rw[lvSz];first|done|rfl) rfl (zu ?_);refine zcv (qbs b _ y (tw l 3) cp3 P3 (qv l 3) _ (by rw[lvSz];exact(hc3.ext hm.ext) 1 _ rfl) (by rw[lvSz];exact(hc3.ext hm.ext) 5 _ rfl) (hP3.ext hm.ext) (h.wd 3 Oo) Oo) ?_;rintro r w10 ⟨rfl,he10⟩;have hm:=hm.call he10;(conv=>whnf);refine zJ 3 ?_;(conv=>whnf);refine StoreV.mem hm (i:=0) rfl (by show 0+3*tsz _ _<4;rw[show tsz EG 3=1 from by kernel_rfl];decide) rfl ?_;intro w11 hm;rw[ey]at hm;refine zu ?_;have htv2:=htv;simp only[tVec,AJ,decide_eq_true_eq]at htv2;obtain⟨⟨hvok,hvn⟩,hvm⟩:=htv2;refine LoadV.cellsE (hc3.ext hm.ext) 7 (by rw[lvSz];first|done|rfl) rfl (zw ?_);refine zcv (qki (qg l 3) S3 cs3 vb y w11 (hS3.ext hm.ext) hl3 hvok (by rw[hvn,hvm];exact hm.ext.get hvo) Oo) ?_;rintro r w12 ⟨rfl,he12⟩;have hm:=hm.call he12;refine zu ?_;refine⟨0+1,⟨rfl,Af (fun n:Nat=>ii (n:Int)) (show qel (qg l 3) y=tI l i (0+1)by rw[ey];exact qab7 l i 0 3 rfl),rfl,rfl,rfl,rfl,trivial⟩,⟨by omega,fun m hm'=>?_,hm⟩,by omega⟩
  by_cases e:m=0
  ·subst e;have e:qe2 l i 0=(decide (y<vNum l 3)&&(decide (0=3)||tVec l 3)):=(by subst ey;rfl);rw[e,Az (show y<vNum l 3 by omega),htv];simp
  ·exact hf m Oo
 ·have hn2:=h.n 2 Oo;have hkv:kv 1=2:=rfl;obtain⟨y,ey0⟩:∃y,y=tI l i 1:=⟨_,rfl⟩
  rw[<-ey0];have ey:y=tUp l i 1:=ey0;(conv=>whnf);refine zt ?_;refine zJ 2 ?_;(conv=>whnf);refine LoadV.cellsE (hc2.ext hm.ext) 0 (by rw[lvSz];first|done|rfl) rfl (zw ?_);refine zC (fun _=>zu ?_) (fun _=>zu ?_)
  ·refine StoreA.all hm (i:=1) rfl rfl Od fun w9 hm=>zw ?_;refine qh (R:=fun v w'=>v=qge l i/\Ext w w') (zw ?_);refine zl hm 1 ?_;exact⟨by rw[qep (fun hq=>by have hq2:=qeq hq 1 Oo;have e:qe2 l i 1=(decide (y<vNum l 2)&&(decide (1=3)||tVec l 2)):=(by subst ey;rfl);rw[e,AH (show ¬y<vNum l 2 by omega)]at hq2;simp at hq2)];rfl,hm.ext⟩
  rcases hv2 with⟨hx|hx,rfl⟩|⟨_,htv,vb,rfl,hvo⟩
  ·omega
  ·refine LoadV.cellsE (hc2.ext hm.ext) 7 (by rw[lvSz];first|done|rfl) rfl (zu ?_);refine StoreA.all hm (i:=1) rfl rfl Od fun w9 hm=>zw ?_;refine qh (R:=fun v w'=>v=qge l i/\Ext w w') (zw ?_);refine zl hm 1 ?_;exact⟨by rw[qep (fun hq=>by have hq2:=qeq hq 1 Oo;have e:qe2 l i 1=(decide (y<vNum l 2)&&(decide (1=3)||tVec l 2)):=(by subst ey;rfl);rw[e,show tVec l 2=false from hx]at hq2;simp at hq2)];rfl,hm.ext⟩
  refine LoadV.cellsE (hc2.ext hm.ext) 7 (by rw[lvSz];first|done|rfl) rfl (zu ?_);refine zcv (qbs b _ y (tw l 2) cp2 P2 (qv l 2) _ (by rw[lvSz];exact(hc2.ext hm.ext) 1 _ rfl) (by rw[lvSz];exact(hc2.ext hm.ext) 5 _ rfl) (hP2.ext hm.ext) (h.wd 2 Oo) Oo) ?_;rintro r w10 ⟨rfl,he10⟩;have hm:=hm.call he10;(conv=>whnf);refine zJ 2 ?_;(conv=>whnf);refine StoreV.mem hm (i:=0) rfl (by show 0+2*tsz _ _<4;rw[show tsz EG 3=1 from by kernel_rfl];decide) rfl ?_;intro w11 hm;rw[ey]at hm;refine zu ?_;have htv2:=htv;simp only[tVec,AJ,decide_eq_true_eq]at htv2;obtain⟨⟨hvok,hvn⟩,hvm⟩:=htv2;refine LoadV.cellsE (hc2.ext hm.ext) 7 (by rw[lvSz];first|done|rfl) rfl (zw ?_);refine zcv (qki (qg l 2) S2 cs2 vb y w11 (hS2.ext hm.ext) hl2 hvok (by rw[hvn,hvm];exact hm.ext.get hvo) Oo) ?_;rintro r w12 ⟨rfl,he12⟩;have hm:=hm.call he12;refine zu ?_;refine⟨1+1,⟨rfl,Af (fun n:Nat=>ii (n:Int)) (show qel (qg l 2) y=tI l i (1+1)by rw[ey];exact qab7 l i 1 2 rfl),rfl,rfl,rfl,rfl,trivial⟩,⟨by omega,fun m hm'=>?_,hm⟩,by omega⟩
  by_cases e:m=1
  ·subst e;have e:qe2 l i 1=(decide (y<vNum l 2)&&(decide (1=3)||tVec l 2)):=(by subst ey;rfl);rw[e,Az (show y<vNum l 2 by omega),htv];simp
  ·exact hf m Oo
 ·have hn1:=h.n 1 Oo;have hkv:kv 2=1:=rfl;obtain⟨y,ey0⟩:∃y,y=tI l i 2:=⟨_,rfl⟩
  rw[<-ey0];have ey:y=tUp l i 2:=ey0;(conv=>whnf);refine zt ?_;refine zJ 1 ?_;(conv=>whnf);refine LoadV.cellsE (hc1.ext hm.ext) 0 (by rw[lvSz];first|done|rfl) rfl (zw ?_);refine zC (fun _=>zu ?_) (fun _=>zu ?_)
  ·refine StoreA.all hm (i:=1) rfl rfl Od fun w9 hm=>zw ?_;refine qh (R:=fun v w'=>v=qge l i/\Ext w w') (zw ?_);refine zl hm 1 ?_;exact⟨by rw[qep (fun hq=>by have hq2:=qeq hq 2 Oo;have e:qe2 l i 2=(decide (y<vNum l 1)&&(decide (2=3)||tVec l 1)):=(by subst ey;rfl);rw[e,AH (show ¬y<vNum l 1 by omega)]at hq2;simp at hq2)];rfl,hm.ext⟩
  rcases hv1 with⟨hx|hx,rfl⟩|⟨_,htv,vb,rfl,hvo⟩
  ·omega
  ·refine LoadV.cellsE (hc1.ext hm.ext) 7 (by rw[lvSz];first|done|rfl) rfl (zu ?_);refine StoreA.all hm (i:=1) rfl rfl Od fun w9 hm=>zw ?_;refine qh (R:=fun v w'=>v=qge l i/\Ext w w') (zw ?_);refine zl hm 1 ?_;exact⟨by rw[qep (fun hq=>by have hq2:=qeq hq 2 Oo;have e:qe2 l i 2=(decide (y<vNum l 1)&&(decide (2=3)||tVec l 1)):=(by subst ey;rfl);rw[e,show tVec l 1=false from hx]at hq2;simp at hq2)];rfl,hm.ext⟩
  refine LoadV.cellsE (hc1.ext hm.ext) 7 (by rw[lvSz];first|done|rfl) rfl (zu ?_);refine zcv (qbs b _ y (tw l 1) cp1 P1 (qv l 1) _ (by rw[lvSz];exact(hc1.ext hm.ext) 1 _ rfl) (by rw[lvSz];exact(hc1.ext hm.ext) 5 _ rfl) (hP1.ext hm.ext) (h.wd 1 Oo) Oo) ?_;rintro r w10 ⟨rfl,he10⟩;have hm:=hm.call he10;(conv=>whnf);refine zJ 1 ?_;(conv=>whnf);refine StoreV.mem hm (i:=0) rfl (by show 0+1*tsz _ _<4;rw[show tsz EG 3=1 from by kernel_rfl];decide) rfl ?_;intro w11 hm;rw[ey]at hm;refine zu ?_;have htv2:=htv;simp only[tVec,AJ,decide_eq_true_eq]at htv2;obtain⟨⟨hvok,hvn⟩,hvm⟩:=htv2;refine LoadV.cellsE (hc1.ext hm.ext) 7 (by rw[lvSz];first|done|rfl) rfl (zw ?_);refine zcv (qki (qg l 1) S1 cs1 vb y w11 (hS1.ext hm.ext) hl1 hvok (by rw[hvn,hvm];exact hm.ext.get hvo) Oo) ?_;rintro r w12 ⟨rfl,he12⟩;have hm:=hm.call he12;refine zu ?_;refine⟨2+1,⟨rfl,Af (fun n:Nat=>ii (n:Int)) (show qel (qg l 1) y=tI l i (2+1)by rw[ey];exact qab7 l i 2 1 rfl),rfl,rfl,rfl,rfl,trivial⟩,⟨by omega,fun m hm'=>?_,hm⟩,by omega⟩
  by_cases e:m=2
  ·subst e;have e:qe2 l i 2=(decide (y<vNum l 1)&&(decide (2=3)||tVec l 1)):=(by subst ey;rfl);rw[e,Az (show y<vNum l 1 by omega),htv];simp
  ·exact hf m Oo
 ·have hn0:=h.n 0 Oo;have hkv:kv 3=0:=rfl;obtain⟨y,ey0⟩:∃y,y=tI l i 3:=⟨_,rfl⟩
  rw[<-ey0];have ey:y=tUp l i 3:=ey0;(conv=>whnf);refine zt ?_;refine zJ 0 ?_;(conv=>whnf);refine LoadV.cellsE (hc0.ext hm.ext) 0 (by rw[lvSz];first|done|rfl) rfl (zw ?_);refine zC (fun _=>zu ?_) (fun _=>zu ?_)
  ·refine StoreA.all hm (i:=1) rfl rfl Od fun w9 hm=>zw ?_;refine qh (R:=fun v w'=>v=qge l i/\Ext w w') (zw ?_);refine zl hm 1 ?_;exact⟨by rw[qep (fun hq=>by have hq2:=qeq hq 3 Oo;have e:qe2 l i 3=(decide (y<vNum l 0)&&(decide (3=3)||tVec l 0)):=(by subst ey;rfl);rw[e,AH (show ¬y<vNum l 0 by omega)]at hq2;simp at hq2)];rfl,hm.ext⟩
  refine zcv (qbs b _ y (tw l 0) cp0 P0 (qv l 0) _ (by rw[lvSz];exact(hc0.ext hm.ext) 1 _ rfl) (by rw[lvSz];exact(hc0.ext hm.ext) 5 _ rfl) (hP0.ext hm.ext) (h.wd 0 Oo) Oo) ?_;rintro r w10 ⟨rfl,he10⟩;have hm:=hm.call he10;(conv=>whnf);refine zJ 0 ?_;(conv=>whnf);refine StoreV.mem hm (i:=0) rfl (by show 0+0*tsz _ _<4;rw[show tsz EG 3=1 from by kernel_rfl];decide) rfl ?_;intro w11 hm;rw[ey]at hm;refine zu ?_;refine⟨3+1,⟨rfl,Af (fun n:Nat=>ii (n:Int)) ey,rfl,rfl,rfl,rfl,trivial⟩,⟨by omega,fun m hm'=>?_,hm⟩,by omega⟩
  by_cases e:m=3
  ·subst e;have e:qe2 l i 3=(decide (y<vNum l 0)&&(decide (3=3)||tVec l 0)):=(by subst ey;rfl);rw[e,Az (show y<vNum l 0 by omega)];simp
  ·exact hf m Oo
 ·have hkv:kv 4=-1:=rfl;refine zu ?_;refine zl hm 0 ?_;refine StoreA.all hm (i:=1) rfl rfl (by intro v hv;simp at hv;rcases hv with rfl|rfl|rfl|rfl<;>rfl) fun w9 hm=>zw ?_;refine qh (R:=fun v w'=>v=qge l i/\Ext w w') (zw ?_);refine zl hm 1 ?_;have hok:tOk l i=true:=by rw[tOk,hf 0 Oo,hf 1 Oo,hf 2 Oo,hf 3 Oo];rfl
  have hg:qge l i=.tuple #[.agg #[ii (tNum l i 0),ii (tNum l i 1),ii (tNum l i 2),ii (tNum l i 3)],.bool true]:=Ad ⟨hi3,hok⟩;exact⟨by rw[hg];rfl,hm.ext⟩
namespace V
def byV(l:LB):EE:=l.map fun c=>Value.int .u8 c.toNat
theorem qdb(l:LB):(byV l).length=l.length:=by simp[byV]
structure Tri(e:E6)(w0 w:Ez)(a b c:E8)(x y z:LB):Prop where
 ext:Ext w0 w
 oa:w.ownsRow w0.heap.size e 1 a x.length (byV x)
 ob:w.ownsRow w0.heap.size e 1 b y.length (byV y)
 oc:w.ownsRow w0.heap.size e 1 c z.length (byV z)
 ab:∀g,a.ownBlock=some g->b.ownBlock≠some g
 ac:∀g,a.ownBlock=some g->c.ownBlock≠some g
 bc:∀g,b.ownBlock=some g->c.ownBlock≠some g
section
variable {P:E4} {e:E6} {w0 w w':Ez} {a b c:E8} {x y z:LB}
theorem Tri.nil(w:Ez):Tri e w w (.slice none 0 0) (.slice none 0 0) (.slice none 0 0) [] [] []:=
 ⟨Ext.refl w,World.ownsRow_nil _ _ _ _,World.ownsRow_nil _ _ _ _,World.ownsRow_nil _ _ _ _,fun g h=>(by cases h),fun g h=>(by cases h),fun g h=>(by cases h)⟩
theorem qov{size n:Nat}{v:E8}(h:w.ownsRow base e size v n xs)(he:Ext w w'):w'.ownsRow base e size v n xs:=
 h.kept (row:=none) ⟨he.os,he.tape,he.output,he.size,fun k hk _=>he.block k hk⟩ (by cases v.ownBlock<;>simp)
theorem Tri.call(h:Tri e w0 w a b c x y z)(he:Ext w w'):Tri e w0 w' a b c x y z:=
 ⟨h.ext.trans he,qov h.oa he,qov h.ob he,qov h.oc he,h.ab,h.ac,h.bc⟩
theorem Tri.rot(h:Tri e w0 w a b c x y z):Tri e w0 w b c a y z x:=
 ⟨h.ext,h.ob,h.oc,h.oa,h.bc,fun g hb ha=>h.ab g ha hb,fun g hc ha=>h.ac g ha hc⟩
theorem qa6{size n:Nat}{v:E8}(h:w.ownsRow base e size v n xs):∃A c,v=.slice A n c:=by
 rcases h.2 with⟨rfl,rfl⟩|⟨g,cap,cur,rfl,_⟩
 ·exact⟨_,_,rfl⟩
 ·exact⟨_,_,rfl⟩
theorem qny(h:SlAt encB 1 w A l):byV l≠[]->∃b off,A=some ⟨b,off,none⟩/\CellsAt w b off (byV l):=by
 intro hne;obtain⟨b,off,h1,h2⟩:=h.at_ (by rintro rfl;exact hne rfl);refine⟨b,off,h1,fun k v hv=>?_⟩;rw[byV,Ao]at hv;obtain⟨u,hu,rfl⟩:=DW.1 hv;have:=h2 k u hu 0 (.int .u8 u.toNat) rfl
 simpa using this
theorem Tri.app{t:E6}{i:TypeInfo}{zv:E8}{m:LB}(h:Tri e w0 w a b c x y z)(ht:P.underlying t=some (.slice e))(hi:P.info? e=some i)(hz:i.zero=some zv)(hsize:i.size=1)(hzs:zv.cells.size=1)(hby:i.bytes<=16)(hS:SlAt encB 1 w B m)(hlen:x.length+m.length<=8000000000000)(hk:∀A' c' w',Tri e w0 w' (.slice A' (x.length+m.length) c') b c (x++m) y z->K (.slice A' (x.length+m.length) c') w'):AppV P #[t,t] ty a (.slice B m.length d) w K:=by
 refine AppV.own (news:=byV m) ht hi hz hsize hzs Od h.oa h.ext.size (by rw[qdb,Bk]) (qny hS) (fun u hu=>?_) (AU (BT hlen hby) Od) Oo ?_
 ·simp only[byV,AY]at hu;obtain⟨v,_,rfl⟩:=hu;rfl
 ·intro v' w' ho hg hor;obtain⟨A',c',rfl⟩:=qa6 ho;have ap:∀(v:E8) (l:LB),w.ownsRow w0.heap.size e 1 v l.length (byV l)->(∀g,a.ownBlock=some g->v.ownBlock≠some g)->(v.ownBlock=none\/v.ownBlock≠a.ownBlock)/\∀g,Value.ownBlock (.slice A' (x.length+m.length) c')=some g->v.ownBlock≠some g:=fun v l hv hap=>by
   constructor
   ·cases hvb:v.ownBlock with
    | none=>exact .inl rfl
    | some g=>exact .inr fun e=>hap g e.symm hvb
   ·intro g hg' hvb
    rcases hor with hor|hor
    ·exact hap g (by rw[<-hor];exact hg') hvb
    ·rw[hor]at hg';have:=(hv.lt g hvb).2;have e:w.heap.size=g:=BB hg';omega
  obtain⟨b1,b2⟩:=ap b y h.ob h.ab;obtain⟨c1,c2⟩:=ap c z h.oc h.ac;refine hk A' c' w' ⟨?_,?_,h.ob.kept hg b1,h.oc.kept hg c1,b2,c2,h.bc⟩
  ·exact Below.grown h.ext hg h.ext.size (fun k hk=>(h.oa.lt k hk).1)
  ·rw[byV,AB,zla];exact ho
theorem qhr{v:E8}(h:w.ownsRow base e 1 v l.length (byV l)):BS w v l:=by
 rcases h.2 with⟨rfl,h0⟩|⟨g,cap,cur,rfl,h1,h2,h3,h4,h5,h6⟩
 ·have:l=[]:=AW h0;subst this;exact BS.nil w
 ·refine⟨_,cap,rfl,h3,⟨fun _=>⟨g,0,rfl,fun j u hu k v hv=>?_⟩⟩⟩;cases k with
  | succ k=>simp[encB]at hv
  | zero=>
   simp only[encB,B9,Bp]at hv;subst hv;have hj:(cur.toList.take (l.length*1))[j]?=some (.int .u8 u.toNat):=by rw[h6,byV,Ao,hu];rfl
   rw[Bc]at hj
   split at hj
   ·rw[qa h2]
    simpa using hj
   ·cases hj
end
end V
structure LvlV(l:LB)(k:Nat):Prop where
 vec:VecOk (qg l k)
 n:vN (qg l k)=vNum l k
 m:vM (qg l k)=vNum l (k-1)
 last:0<vNum l k->bitN ((qg l k).drop 8) (vNum l k-1)=1
theorem LvlV.tvec(h:LvlV l k):tVec l k=true:=by
 unfold tVec;rw[h.vec.ok,Az h.n,Az h.m];rfl
theorem LvlV.rank(h:LvlV l k)(i:Nat)(hi:i<=vNum l k):qel (qg l k) i=cnt ((qg l k).drop 8) i:=h.vec.rank i (by rw[h.n];exact hi)
theorem LvlV.lt(h:LvlV l k)(i:Nat)(hi:i<vNum l k):qel (qg l k) i<vNum l (k-1):=by
 rw[h.rank i Oo,<-h.m,<-h.vec.ones,h.n];have e:vNum l k=vNum l k-1+1:=by omega
 have h1:=h.last Oo;have h2:cnt ((qg l k).drop 8) i<=cnt ((qg l k).drop 8) (vNum l k-1):=qj9 Oo;rw[e,cnt,h1];omega
section
variable {l:LB} (hL:∀k,1<=k->k<=3->LvlV l k) {i:Nat} (hi:i<vNum l 3)
include hL hi
theorem q8m:∀j,j<=3->tUp l i j<vNum l (3-j)
 | 0,_=>hi
 | j+1,hj=>by
  have h:=q8m j Oo;have:=(hL (3-j) Oo Oo).lt _ h;rw[tUp];have e:3-j-1=3-(j+1):=by omega
  rwa[e]at this
theorem qab6:tOk l i=true:=by
 have h:=q8m hL hi;unfold tOk qe2;rw[Az (h 0 Oo),Az (h 1 Oo),Az (h 2 Oo),Az (h 3 Oo),(hL 3 Oo Oo).tvec,(hL 2 Oo Oo).tvec,(hL 1 Oo Oo).tvec];rfl
end
structure DSt(m:LB)(i:Nat)(last:LB)(p:Nat):Prop where
 le:p<=(qe m).length
 st:∀j,i=j+1->blk (qe m) (q9 m (j/16)) (j%16)=(last,p,0)
theorem DSt.step{m:LB}{last:LB}{p:Nat}(h:DSt m i last p)(hp:i%16=0->q9 m (i/16)=p){first:Bool}(hf:first=decide (i%16=0))(he:(entG ((qe m).drop p) first last).2.2=0):DSt m (i+1) (entG ((qe m).drop p) first last).1 (p+(entG ((qe m).drop p) first last).2.1):=by
 have hlen:=(qgg he).2;have hle:=h.le;rw[zld]at hlen;refine⟨by omega,fun j hj=>?_⟩;obtain rfl:j=i:=by omega
 have hat:∀b x,entG ((qe m).drop p) b x=entG ((qe m).drop p) first last->qcs (qe m) p b x=((entG ((qe m).drop p) first last).1,p+(entG ((qe m).drop p) first last).2.1,0):=fun b x e=>by
  rw[qcs,Aa Oo,e,Aa Oo]
 by_cases h0:j%16=0
 ·rw[h0,hp h0];have hf1:first=true:=by rw[hf,Az h0]
  subst hf1;exact hat _ _ (by simp only[entG,if_true,Cn,if_false,Bz])
 ·have hf1:first=false:=by rw[hf,AH h0]
  subst hf1;obtain⟨k,rfl⟩:∃k,j=k+1:=⟨j-1,by omega⟩
  have hk:=h.st k rfl;have e1:(k+1)/16=k/16:=by omega
  have e2:(k+1)%16=k%16+1:=by omega
  rw[e1,e2,blk,hk,Aa Js];exact hat _ _ rfl
theorem DSt.get{m:LB}{last:LB}{p:Nat}(h:DSt m (i+1) last p)(hi:i<dN m):dGet m i=some last:=by
 have:=h.st i rfl;rw[dGet,Ad hi,this,Ad rfl]
def gL(d:LB):Nat->LB
 | 0=>[]
 | i+1=>if i%2048=0 then gL d i++fixL (cnt d i) 4 else gL d i
def sL(d:LB):Nat->LB
 | 0=>[]
 | i+1=>if i%256=0 then sL d i++fixL (cnt d i-cnt d (2048*(i/2048))) 2 else sL d i
def mL(d:LB):Nat->LB
 | 0=>[]
 | i+1=>if bitN d i=1/\cnt d i%512=0 then mL d i++fixL i 4 else mL d i
theorem qqz(d:LB)(i:Nat):(gL d i).length=4*upN i 2048:=by
 induction i with
 | zero=>rfl
 | succ i ih=>
  rw[gL]
  split
  ·rw[zla,ih,qi];unfold upN;omega
  ·rw[ih];unfold upN;omega
theorem qwt(d:LB)(i:Nat):(sL d i).length=2*upN i 256:=by
 induction i with
 | zero=>rfl
 | succ i ih=>
  rw[sL]
  split
  ·rw[zla,ih,qi];unfold upN;omega
  ·rw[ih];unfold upN;omega
theorem q8a(d:LB)(i:Nat):(mL d i).length=4*upN (cnt d i) 512:=by
 induction i with
 | zero=>simp[mL,cnt,upN]
 | succ i ih=>
  have hb:=qib d i;rw[mL,cnt]
  split
  ·rename_i h
   rw[zla,ih,qi,h.1];unfold upN;omega
  ·rename_i h
   rw[ih]
   by_cases h1:bitN d i=1
   ·have:cnt d i%512≠0:=fun e=>h ⟨h1,e⟩
    rw[h1];unfold upN;omega
   ·have:bitN d i=0:=by omega
    rw[this];rfl
theorem qaew(d:LB)(i j:Nat)(hj:j<upN i 2048):((gL d i).drop (4*j)).take 4=fixL (cnt d (2048*j)) 4:=by
 induction i with
 | zero=>simp[upN]at hj
 | succ i ih=>
  have hlen:=qqz d i;rw[gL]
  split
  ·rename_i h
   by_cases hlt:j<upN i 2048
   ·rw[BQ Oo,BK (by rw[zld];omega)];exact ih hlt
   ·have e1:4*j=(gL d i).length:=by rw[hlen];unfold upN at hj hlt|-;omega
    have e2:i=2048*j:=by unfold upN at hj hlt;omega
    rw[e1,D5,AF (by rw[qi];exact Aq _),<-e2]
  ·rename_i h
   exact ih (by unfold upN at hj|-;omega)
theorem qae7(d:LB)(i j:Nat)(hj:j<upN i 256):((sL d i).drop (2*j)).take 2=fixL (cnt d (256*j)-cnt d (2048*(j/8))) 2:=by
 induction i with
 | zero=>simp[upN]at hj
 | succ i ih=>
  have hlen:=qwt d i;rw[sL]
  split
  ·rename_i h
   by_cases hlt:j<upN i 256
   ·rw[BQ Oo,BK (by rw[zld];omega)];exact ih hlt
   ·have e1:2*j=(sL d i).length:=by rw[hlen];unfold upN at hj hlt|-;omega
    have e2:i=256*j:=by unfold upN at hj hlt;omega
    have e3:i/2048=j/8:=by omega
    rw[e1,D5,AF (by rw[qi];exact Aq _),e3,<-e2]
  ·rename_i h
   exact ih (by unfold upN at hj|-;omega)
theorem qxj(d:LB)(a b:Nat):cnt d (a+b)<=cnt d a+b:=by
 induction b with
 | zero=>exact Aq _
 | succ b ih=>have:=qib d (a+b);rw[<-C7,cnt];omega
def vD(l:LB):LB:=(l.drop 8).take (upN (vN l) 8)
theorem qqi(l:LB)(n:Nat)(hn:n<=vN l):cnt (vD l) n=cnt (l.drop 8) n:=qvg _ _ _ (by unfold upN;omega)
theorem VecOk.of(hv:vOk l=true)(h1:cnt (vD l) (vN l)=vM l)(hd:l.drop (qaa (vN l))=gL (vD l) (vN l)++(sL (vD l) (vN l)++mL (vD l) (vN l))):VecOk l:=by
 have hn:vN l<=67108864:=by
  simp only[vOk,AJ,decide_eq_true_eq]at hv;exact hv.1.1.2
 refine⟨hv,fun j hj=>?_,fun j hj=>?_,by rw[<-qqi l _ znr];exact h1⟩
 ·have hlen:=qqz (vD l) (vN l);rw[<-AM,hd,BQ Oo,BK (by rw[zld];omega),qaew _ _ _ hj,qiw];have hle:2048*j<=vN l:=by unfold upN at hj;omega
  have hc:=qmu (vD l) (2048*j);rw[BD (by show _<4294967296;omega),qqi l _ hle]
 ·have hlen:=qqz (vD l) (vN l);have hlen2:=qwt (vD l) (vN l);have e:qbi (vN l)+2*j=qaa (vN l)+((gL (vD l) (vN l)).length+2*j):=by rw[hlen,qbi];omega
  have e2:∀A B:LB,(A++B).drop (A.length+2*j)=B.drop (2*j):=fun A B=>by rw[<-AM,D5]
  rw[e,<-AM,hd,e2,BQ Oo,BK (by rw[zld];omega),qae7 _ _ _ hj,qiw];have hle:256*j<=vN l:=by unfold upN at hj;omega
  have hc:cnt (vD l) (256*j)<=cnt (vD l) (2048*(j/8))+2048:=by
   have:=qxj (vD l) (2048*(j/8)) (256*j-2048*(j/8));have e4:2048*(j/8)+(256*j-2048*(j/8))=256*j:=by omega
   rw[e4]at this;omega
  rw[BD (by show _<65536;omega),qqi l _ hle,qqi l _ Oo]
theorem qnw(d:LB)(A:oA)(n c t:Nat)(w:Ez)(hS:SlAt encB 1 w A d)(hn:d.length=n)(ht:t/8<d.length)(hd:d.length<=67108864):
  Gv EG 128 [.slice A n c,ii t] w fun v w'=>v=.bool (decide (bitN d t=1))/\w'=w:=by
 have hlt:=qa1 d[t/8];have hlt2:d[t/8].toNat/2 ^ (t%8)<256:=Ca (DA _ _) hlt;have hb:d[t/8].toNat/2 ^ (t%8)%2 ^ 1=bitN d t:=by
  rw[bitN,Ag,zge ht];rfl
 have ht':t/8<n:=hn ▸ ht;refine ze Tryz.func128 Tryz.ntmps128 ?_;refine zv ?_;refine ElemV.bs hS hn (t/8) Oo ht' ?_;intro eb eo hc;(conv=>whnf);refine LoadV.of hc (zu ?_);refine V.Wit.shrN (t%8) Oo (by show t%8<8;omega) (zw ?_);refine Wit.eq (qbb (k:=.u8) (m:=d[t/8].toNat/2 ^ (t%8)) 1 rfl (qgf hlt2) ⟨by omega,by omega⟩) ?_;rw[hb];(conv=>whnf);refine⟨Af Value.bool ?_,rfl⟩;rw[AV];simp only[decide_eq_true_eq];omega
theorem qwp(n k:Nat)(w:Ez)(hk:k<=4):
  Gv EG 127 [ii n,ii k] w fun r w'=>w'.ownsRow w.heap.size 5 1 r k (byV (fixL n k))/\Ext w w':=by
 refine ze Tryz.func127 Tryz.ntmps127 ?_;refine qj (fun x:Nat×oA×Nat=>[(0,ii n),(1,ii k),(5,.slice x.2.1 x.1 x.2.2),(6,ii x.1)])
  (fun x w2=>x.1<=k/\Rw w w2 (.slice x.2.1 x.1 x.2.2) 5 1 x.1 (byV (fixL n x.1)) []) (fun x=>k-x.1) (0,none,0) fq ⟨by simp,Rw.nil (Mem.nil w)⟩ ?_
 rintro⟨i,A,c⟩ w2 ρ' ⟨h1,hR⟩;dsimp only at h1 hR|-;(conv=>whnf);refine zC (fun _=>zu ?_) (fun _=>zu ?_)
 ·refine V.Wit.shrN (8*i) Oo (by show 8*i<64;omega) (zw ?_);refine V.Wit.low8 (zw ?_);refine NewV.rw hR fun nb w4 hR4=>zw ?_;refine AppV.one qcp bytI bytZ Jk rfl (by decide +kernel) hR4 rfl Oo ?_;intro B' d' w5 hR5;refine zu ?_;refine⟨(i+1,B',d'),fq,⟨by simp only;omega,?_⟩,by simp only;omega⟩;simp only[fixL,byV,AB,AO,BM];have e:(UInt8.ofNat (n/2 ^ (8*i)%256)).toNat=n/2 ^ (8*i)%256:=by simp
  rw[e];exact hR5
 ·obtain rfl:i=k:=by omega
  exact⟨hR.own,hR.mem.ext⟩
def qar(d:LB)(n:Nat):LB:=fixL n 4++fixL (cnt d n) 4++d++gL d n++sL d n++mL d n
def ahN(d:LB)(i:Nat):Nat:=if i=0 then 0 else cnt d (2048*((i-1)/2048))
theorem q72(d:LB)(i:Nat)(h:i%2048=0):gL d (i+1)=gL d i++fixL (cnt d i) 4:=by rw[gL,Ad h]
theorem q0p(d:LB)(i:Nat)(h:i%2048≠0):gL d (i+1)=gL d i:=by rw[gL,Aa h]
theorem qws(d:LB)(i:Nat)(h:i%256=0):sL d (i+1)=sL d i++fixL (cnt d i-cnt d (2048*(i/2048))) 2:=by rw[sL,Ad h]
theorem qabw(d:LB)(i:Nat)(h:i%256≠0):sL d (i+1)=sL d i:=by rw[sL,Aa h]
theorem qm2(d:LB)(i:Nat)(h:bitN d i=1)(h2:cnt d i%512=0):mL d (i+1)=mL d i++fixL i 4:=by rw[mL,Ad ⟨h,h2⟩]
theorem qiz(d:LB)(i:Nat)(h:¬(bitN d i=1/\cnt d i%512=0)):mL d (i+1)=mL d i:=by rw[mL,Aa h]
theorem qacs(d:LB)(i:Nat)(h:i%2048=0):ahN d (i+1)=cnt d i:=by
 rw[ahN,Aa Oo];have e:2048*((i+1-1)/2048)=i:=by omega
 rw[e]
theorem qzk(d:LB)(i:Nat)(h:i%2048≠0):ahN d (i+1)=ahN d i:=by
 rw[ahN,ahN,Aa Oo,Aa Oo];have e:(i+1-1)/2048=(i-1)/2048:=by omega
 rw[e]
theorem qnq(d:LB)(i:Nat):ahN d (i+1)=cnt d (2048*(i/2048)):=by
 rw[ahN,Aa Oo];rfl
theorem qaes(d:LB)(i:Nat):ahN d i<=cnt d i:=by
 rw[ahN]
 split
 ·exact Am _
 ·exact qj9 Oo
theorem V.AppV.rwB{t:E6}{i:TypeInfo}{x m:LB}(ht:P.underlying t=some (.slice e))(hi:P.info? e=some i)(hz:i.zero=some z)(hsize:i.size=1)(hzs:z.cells.size=1)(hby:i.bytes<=16)(h:Rw w0 w (.slice A x.length c) e 1 x.length (byV x) L)(hS:SlAt encB 1 w B m)(hlen:x.length+m.length<=8000000000000)(hk:∀A' c' w',Rw w0 w' (.slice A' (x++m).length c') e 1 (x++m).length (byV (x++m)) L->K (.slice A' (x++m).length c') w'):AppV P #[t,t] ty (.slice A x.length c) (.slice B m.length d) w K:=by
 refine AppV.rw (news:=byV m) ht hi hz hsize hzs Od h (by rw[qdb,Bk]) (qny hS) (fun u hu=>?_) (AU (BT hlen hby) Od) Oo ?_
 ·simp only[byV,AY]at hu;obtain⟨v,_,rfl⟩:=hu;rfl
 ·intro A' c' w' hR;rw[<-zla]at hR|-;exact hk A' c' w' (by rw[byV,AB];exact hR)
theorem qdf(n k:Nat)(w:Ez)(hk:k<=4):
  Gv EG 127 [ii n,ii k] w fun r w'=>(∃A c,r=.slice A (fixL n k).length c/\SlAt encB 1 w' A (fixL n k))/\Ext w w':=by
 refine(qwp n k w hk).mono ?_;rintro r w' ⟨ho,he⟩;obtain⟨A,c,e,_,hS⟩:=qhr (l:=fixL n k) (by rw[qi];exact ho);exact⟨⟨A,c,e,hS⟩,he⟩
theorem qzd(d:LB)(A:oA)(l c n:Nat)(w:Ez)(hS:SlAt encB 1 w A d)(hl:d.length=l)(hn:n<=8*d.length)(hb:n<=67108864)(hd:d.length<=67108864):
  Gv EG 82 [.slice A l c,ii n] w fun v w'=>(∃B cb,v=.slice B (qar d n).length cb/\SlAt encB 1 w' B (qar d n))/\Ext w w':=by
 refine ze Tryz.func82 Tryz.ntmps82 ?_;refine qj (fun x:Nat×(oA×Nat)×(oA×Nat)×(oA×Nat)=>[(0,.slice A l c),(1,ii n),(5,.slice x.2.1.1 (gL d x.1).length x.2.1.2),(6,.slice x.2.2.1.1 (sL d x.1).length x.2.2.1.2),(7,.slice x.2.2.2.1 (mL d x.1).length x.2.2.2.2),(8,ii (cnt d x.1)),(9,ii (ahN d x.1)),(10,ii x.1)])
  (fun x w'=>x.1<=n/\V.Tri 5 w w' (.slice x.2.1.1 (gL d x.1).length x.2.1.2) (.slice x.2.2.1.1 (sL d x.1).length x.2.2.1.2) (.slice x.2.2.2.1 (mL d x.1).length x.2.2.2.2) (gL d x.1) (sL d x.1) (mL d x.1)) (fun x=>n-x.1) (0,(none,0),(none,0),(none,0))
  fq ⟨Am _,Tri.nil w⟩ ?_
 rintro⟨i,⟨GA,gc⟩,⟨SA,sc⟩,⟨MA,mc⟩⟩ w1 ρ' ⟨i1,hT⟩;dsimp only at i1 hT|-;have hc:=qmu d i;have hah:=qaes d i;have hgl:=qqz d i;have hsl:=qwt d i;have hml:=q8a d i;have hu1:=qb9 i 2048 Od;have hu2:=qb9 i 256 Od;have hu3:=qb9 (cnt d i) 512 Od;have hs:cnt d (i+1)=cnt d i+bitN d i:=rfl;have hb1:=qib d i;conv=>whnf
 (repeat'(first|refine zp ?_|refine zC (fun _=>zw ?_) (fun _=>zw ?_)))
 ·have hah1:ahN d (i+1)=cnt d i:=qacs d i Oo;refine zcv (qdf (cnt d i) 4 w1 Od) ?_;rintro r w2 ⟨⟨B,cb,rfl,hSB⟩,he⟩;have hT:=hT.call he;(conv=>whnf);refine V.Tri.app hT qcp bytI bytZ Jk rfl (by decide +kernel) hSB (by rw[qi];omega) ?_;intro GA gc w3 hT;have e1:(gL d i).length+(fixL (cnt d i) 4).length=(gL d (i+1)).length:=by rw[q72 d i Oo,zla]
  rw[e1]at hT|-;rw[<-q72 d i Oo]at hT;refine zu ?_;have es:((cnt d i:Nat):Int)-((cnt d i:Nat):Int)=((cnt d i-ahN d (i+1):Nat):Int):=by rw[hah1];omega
  rw[es];refine zcv (qdf (cnt d i-ahN d (i+1)) 2 _ Od) ?_;rintro r w4 ⟨⟨B2,cb2,rfl,hSB2⟩,he2⟩;have hT:=(hT.call he2).rot;(conv=>whnf);refine V.Tri.app hT qcp bytI bytZ Jk rfl (by decide +kernel) hSB2 (by rw[qi];omega) ?_;intro SA sc w5 hT;have e2:(sL d i).length+(fixL (cnt d i-ahN d (i+1)) 2).length=(sL d (i+1)).length:=by rw[qws d i Oo,zla,qnq]
  rw[e2]at hT|-;rw[qnq,<-qws d i Oo]at hT;have hT:=hT.rot.rot;(conv=>whnf);refine zcv (qnw d A l c i _ (hS.ext hT.ext) hl Oo hd) ?_;rintro r w6 ⟨rfl,rfl⟩;conv=>whnf
  (repeat'(first|refine zp ?_|refine zC (fun _=>zw ?_) (fun _=>zw ?_)))
  ·have e3:((cnt d i:Nat):Int)+1=((cnt d (i+1):Nat):Int):=by rw[hs];omega
   refine zcv (qdf i 4 _ Od) ?_;rintro r w7 ⟨⟨B3,cb3,rfl,hSB3⟩,he3⟩;have hT:=(hT.call he3).rot.rot;(conv=>whnf);refine V.Tri.app hT qcp bytI bytZ Jk rfl (by decide +kernel) hSB3 (by rw[qi];omega) ?_;intro MA mc w8 hT;have e4:(mL d i).length+(fixL i 4).length=(mL d (i+1)).length:=by rw[qm2 d i ‹_› Oo,zla]
   rw[e4]at hT|-;rw[<-qm2 d i ‹_› Oo]at hT;have hT:=hT.rot;refine zu ?_;exact⟨(i+1,(GA,gc),(SA,sc),(MA,mc)),⟨rfl,rfl,rfl,rfl,rfl,by rw[<-e3];rfl,by rw[hah1];rfl,rfl,trivial⟩,⟨by simp only;omega,hT⟩,by simp only;omega⟩
  ·have e3:((cnt d i:Nat):Int)+1=((cnt d (i+1):Nat):Int):=by rw[hs];omega
   rw[<-qiz d i (fun h=>by omega)]at hT|-;exact⟨(i+1,(GA,gc),(SA,sc),(MA,mc)),⟨rfl,rfl,rfl,rfl,rfl,by rw[<-e3];rfl,by rw[hah1];rfl,rfl,trivial⟩,⟨by simp only;omega,hT⟩,by simp only;omega⟩
  ·have e3:cnt d i=cnt d (i+1):=by rw[hs];omega
   rw[<-qiz d i (fun h=>by omega)]at hT|-;rw[e3];exact⟨(i+1,(GA,gc),(SA,sc),(MA,mc)),⟨rfl,rfl,rfl,rfl,rfl,rfl,by rw[hah1,e3];rfl,rfl,trivial⟩,⟨by simp only;omega,hT⟩,by simp only;omega⟩
 ·have hah1:ahN d (i+1)=ahN d i:=qzk d i Oo;rw[<-q0p d i Oo]at hT|-;have es:((cnt d i:Nat):Int)-((ahN d i:Nat):Int)=((cnt d i-ahN d (i+1):Nat):Int):=by rw[hah1];omega
  rw[es];refine zcv (qdf (cnt d i-ahN d (i+1)) 2 _ Od) ?_;rintro r w4 ⟨⟨B2,cb2,rfl,hSB2⟩,he2⟩;have hT:=(hT.call he2).rot;(conv=>whnf);refine V.Tri.app hT qcp bytI bytZ Jk rfl (by decide +kernel) hSB2 (by rw[qi];omega) ?_;intro SA sc w5 hT;have e2:(sL d i).length+(fixL (cnt d i-ahN d (i+1)) 2).length=(sL d (i+1)).length:=by rw[qws d i Oo,zla,qnq]
  rw[e2]at hT|-;rw[qnq,<-qws d i Oo]at hT;have hT:=hT.rot.rot;(conv=>whnf);refine zcv (qnw d A l c i _ (hS.ext hT.ext) hl Oo hd) ?_;rintro r w6 ⟨rfl,rfl⟩;conv=>whnf
  (repeat'(first|refine zp ?_|refine zC (fun _=>zw ?_) (fun _=>zw ?_)))
  ·have e3:((cnt d i:Nat):Int)+1=((cnt d (i+1):Nat):Int):=by rw[hs];omega
   refine zcv (qdf i 4 _ Od) ?_;rintro r w7 ⟨⟨B3,cb3,rfl,hSB3⟩,he3⟩;have hT:=(hT.call he3).rot.rot;(conv=>whnf);refine V.Tri.app hT qcp bytI bytZ Jk rfl (by decide +kernel) hSB3 (by rw[qi];omega) ?_;intro MA mc w8 hT;have e4:(mL d i).length+(fixL i 4).length=(mL d (i+1)).length:=by rw[qm2 d i ‹_› Oo,zla]
   rw[e4]at hT|-;rw[<-qm2 d i ‹_› Oo]at hT;have hT:=hT.rot;refine zu ?_;exact⟨(i+1,(GA,gc),(SA,sc),(MA,mc)),⟨rfl,rfl,rfl,rfl,rfl,by rw[<-e3];rfl,by rw[hah1];rfl,rfl,trivial⟩,⟨by simp only;omega,hT⟩,by simp only;omega⟩
  ·have e3:((cnt d i:Nat):Int)+1=((cnt d (i+1):Nat):Int):=by rw[hs];omega
   rw[<-qiz d i (fun h=>by omega)]at hT|-;exact⟨(i+1,(GA,gc),(SA,sc),(MA,mc)),⟨rfl,rfl,rfl,rfl,rfl,by rw[<-e3];rfl,by rw[hah1];rfl,rfl,trivial⟩,⟨by simp only;omega,hT⟩,by simp only;omega⟩
  ·have e3:cnt d i=cnt d (i+1):=by rw[hs];omega
   rw[<-qiz d i (fun h=>by omega)]at hT|-;rw[e3];exact⟨(i+1,(GA,gc),(SA,sc),(MA,mc)),⟨rfl,rfl,rfl,rfl,rfl,rfl,by rw[hah1];rfl,rfl,trivial⟩,⟨by simp only;omega,hT⟩,by simp only;omega⟩
 ·have hah1:ahN d (i+1)=ahN d i:=qzk d i Oo;rw[<-q0p d i Oo,<-qabw d i Oo]at hT|-;refine zcv (qnw d A l c i _ (hS.ext hT.ext) hl Oo hd) ?_;rintro r w6 ⟨rfl,rfl⟩;conv=>whnf
  (repeat'(first|refine zp ?_|refine zC (fun _=>zw ?_) (fun _=>zw ?_)))
  ·have e3:((cnt d i:Nat):Int)+1=((cnt d (i+1):Nat):Int):=by rw[hs];omega
   refine zcv (qdf i 4 _ Od) ?_;rintro r w7 ⟨⟨B3,cb3,rfl,hSB3⟩,he3⟩;have hT:=(hT.call he3).rot.rot;(conv=>whnf);refine V.Tri.app hT qcp bytI bytZ Jk rfl (by decide +kernel) hSB3 (by rw[qi];omega) ?_;intro MA mc w8 hT;have e4:(mL d i).length+(fixL i 4).length=(mL d (i+1)).length:=by rw[qm2 d i ‹_› Oo,zla]
   rw[e4]at hT|-;rw[<-qm2 d i ‹_› Oo]at hT;have hT:=hT.rot;refine zu ?_;exact⟨(i+1,(GA,gc),(SA,sc),(MA,mc)),⟨rfl,rfl,rfl,rfl,rfl,by rw[<-e3];rfl,by rw[hah1];rfl,rfl,trivial⟩,⟨by simp only;omega,hT⟩,by simp only;omega⟩
  ·have e3:((cnt d i:Nat):Int)+1=((cnt d (i+1):Nat):Int):=by rw[hs];omega
   rw[<-qiz d i (fun h=>by omega)]at hT|-;exact⟨(i+1,(GA,gc),(SA,sc),(MA,mc)),⟨rfl,rfl,rfl,rfl,rfl,by rw[<-e3];rfl,by rw[hah1];rfl,rfl,trivial⟩,⟨by simp only;omega,hT⟩,by simp only;omega⟩
  ·have e3:cnt d i=cnt d (i+1):=by rw[hs];omega
   rw[<-qiz d i (fun h=>by omega)]at hT|-;rw[e3];exact⟨(i+1,(GA,gc),(SA,sc),(MA,mc)),⟨rfl,rfl,rfl,rfl,rfl,rfl,by rw[hah1];rfl,rfl,trivial⟩,⟨by simp only;omega,hT⟩,by simp only;omega⟩
 ·obtain rfl:i=n:=by omega
  have hG:SlAt encB 1 w1 GA (gL d i):=by
   obtain⟨_,_,e,_,h⟩:=qhr hT.oa;cases e;exact h
  have hH:SlAt encB 1 w1 SA (sL d i):=by
   obtain⟨_,_,e,_,h⟩:=qhr hT.ob;cases e;exact h
  have hI:SlAt encB 1 w1 MA (mL d i):=by
   obtain⟨_,_,e,_,h⟩:=qhr hT.oc;cases e;exact h
  refine zcv (qwp i 4 w1 Od) ?_;rintro r w2 ⟨ho,he⟩;obtain⟨B,cb,rfl⟩:=qa6 ho;have hR:Rw w1 w2 (.slice B (fixL i 4).length cb) 5 1 (fixL i 4).length (byV (fixL i 4)) []:=⟨⟨he,by simp,by simp⟩,ho,by simp⟩
  (conv=>whnf);refine zcv (qdf (cnt d i) 4 w2 Od) ?_;rintro r w3 ⟨⟨B2,cb2,rfl,hS2⟩,he2⟩;have hR:=hR.call he2;(conv=>whnf);refine AppV.rwB (x:=fixL i 4) qcp bytI bytZ Jk rfl (by decide +kernel) hR hS2 (by rw[qi,qi];omega) ?_;intro C1 c1 w4 hR;(conv=>whnf);subst hl;refine AppV.rwB (x:=fixL i 4++fixL (cnt d i) 4) qcp bytI bytZ Jk rfl (by decide +kernel) hR (hS.ext (hT.ext.trans hR.mem.ext)) (by simp only[zla,qi];omega) ?_;intro C2 c2 w5 hR;(conv=>whnf);refine AppV.rwB (x:=fixL i 4++fixL (cnt d i) 4++d) qcp bytI bytZ Jk rfl (by decide +kernel) hR (hG.ext hR.mem.ext) (by simp only[zla,qi];omega) ?_;intro C3 c3 w6 hR;(conv=>whnf);refine AppV.rwB (x:=fixL i 4++fixL (cnt d i) 4++d++gL d i) qcp bytI bytZ Jk rfl (by decide +kernel) hR (hH.ext hR.mem.ext) (by simp only[zla,qi];omega) ?_;intro C4 c4 w7 hR;(conv=>whnf);refine AppV.rwB (x:=fixL i 4++fixL (cnt d i) 4++d++gL d i++sL d i) qcp bytI bytZ Jk rfl (by decide +kernel) hR (hI.ext hR.mem.ext) (by simp only[zla,qi];omega) ?_;intro C5 c5 w8 hR;(conv=>whnf);obtain⟨_,_,e,_,h⟩:=qhr hR.own;cases e;exact⟨⟨C5,c5,rfl,h⟩,hT.ext.trans hR.mem.ext⟩
end Go.Proofs.YtacnkdagblbgfaaGreatDoor
