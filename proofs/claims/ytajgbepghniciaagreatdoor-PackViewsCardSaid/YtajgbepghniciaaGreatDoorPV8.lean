/- Lemmas and contracts of functions on the way to the law's card (part 8 of 13). -/
import Derived.Test.YtajgbepghniciaaGreatDoorPV7
import Derived.Lib.Replace
import Derived.Lib.CutLaws
namespace Go.Proofs.YtajgbepghniciaaGreatDoor
open Go.RowKit V
set_option maxRecDepth 100000
theorem OpR.ext {p:List UInt8} {n wd base:Nat} {v:Value} {w w':World} (h:OpR p n wd base v w) (he:Ext w w'):OpR p n wd base v w':=by
 rcases h with h|h|⟨h1,h2,b,h3,h4,h5⟩
 ·exact .inl h
 ·exact .inr (.inl h)
 ·exact .inr (.inr ⟨h1,h2,b,h3,h4,he.get h5⟩)
theorem OpR.base {p:List UInt8} {n wd base b':Nat} {v:Value} {w:World} (h:OpR p n wd b' v w) (hb:base≤b'):OpR p n wd base v w:=by
 rcases h with h|h|⟨h1,h2,b,h3,h4,h5⟩
 ·exact .inl h
 ·exact .inr (.inl h)
 ·exact .inr (.inr ⟨h1,h2,b,h3,Nat.le_trans hb h4,h5⟩)
def OpS (p:List UInt8) (n wd base:Nat) (v:Value) (w:World):Prop:=
 (opE p n wd≠0∧v=.slice none 0 0)∨(opE p n wd=0∧wd=0∧v=.slice none 0 0)∨
 (opE p n wd=0∧wd≠0∧∃ b,v=.slice (some ⟨b,0,none⟩) n n∧base≤b∧w.heap[b]?=some (.cells (unpV p n wd).toArray 175 (0,0)))
theorem OpS.ext {p:List UInt8} {n wd base:Nat} {v:Value} {w w':World} (h:OpS p n wd base v w) (he:Ext w w'):OpS p n wd base v w':=by
 rcases h with h|h|⟨h1,h2,b,h3,h4,h5⟩
 ·exact .inl h
 ·exact .inr (.inl h)
 ·exact .inr (.inr ⟨h1,h2,b,h3,h4,he.get h5⟩)
theorem OpR.split {p:List UInt8} {n wd base:Nat} {v:Value} {w:World} (h:OpR p n wd base v w):∃ A k c,v=.tuple #[.slice A k c,.int .i64 (opE p n wd)]∧OpS p n wd base (.slice A k c) w:=by
 rcases h with ⟨h1,h2⟩|⟨h1,h2,h3⟩|⟨h1,h2,b,h3,h4⟩
 ·exact ⟨none,0,0,h2,.inl ⟨h1,rfl⟩⟩
 ·exact ⟨none,0,0,by rw [h1];exact h3,.inr (.inl ⟨h1,h2,rfl⟩)⟩
 ·exact ⟨some ⟨b,0,none⟩,n,n,by rw [h1];exact h3,.inr (.inr ⟨h1,h2,b,rfl,h4⟩)⟩
theorem OpS.slice {p:List UInt8} {n wd base:Nat} {v:Value} {w:World} (h:OpS p n wd base v w):∃ A k c,v=.slice A k c:=by
 rcases h with ⟨_,rfl⟩|⟨_,_,rfl⟩|⟨_,_,b,rfl,_⟩
 ·exact ⟨_,_,_,rfl⟩
 ·exact ⟨_,_,_,rfl⟩
 ·exact ⟨_,_,_,rfl⟩
theorem qhu (p:List UInt8) (n wd:Nat):(unpV p n wd).length=n:=by simp [unpV,unpN]
theorem qbg (p:List UInt8) (n wd:Nat):(unpN p n wd).length=n:=by simp [unpN]
theorem qu0 {p:List UInt8} {n wd x:Nat} (h:x∈unpN p n wd):x<2 ^ wd:=by
 obtain ⟨i,_,rfl⟩:=List.mem_map.1 h;exact qi5 _ _ _
theorem qwu {w0 w w':World} {v:Value} {e:TypeId} {n:Nat} {xs:List Value} {L:List (Nat × Obj)} (hm:Mem w0 w L) (he:Ext w w') (h:w'.ownsRow w.heap.size e 1 v n xs):Rw w0 w' v e 1 n xs L:=by
 refine ⟨hm.call he,⟨h.1,h.2.imp id fun ⟨g,cap,cur,e1,hb,r⟩=>⟨g,cap,cur,e1,Nat.le_trans hm.ext.size hb,r⟩⟩,fun x hx e=>?_⟩;have h1:=(h.lt x.1 e).1;have h2:=hm.lt (b:=x.1) (o:=x.2) hx;omega
theorem qu1 (p:List UInt8) {i n:Nat} (h:i<n):(unpV p n 0).take (i+1)=(unpV p n 0).take i++[.int .u64 0]:=by
 rw [List.take_add_one,unpV,unpN,List.getElem?_map,List.getElem?_map,List.getElem?_range h];rfl
theorem q1a:Tryz.prog.underlying 211=some (.slice 175):=Tryz.underlying211
theorem u64I:Tryz.prog.info? 175=some ((Tryz.prog.info? 175).get (by kernel_rfl)):=(Option.some_get _).symm
theorem u64Z:((Tryz.prog.info? 175).get (by kernel_rfl)).zero=some (.int .u64 0):=by kernel_rfl
theorem OpS.rw {p:List UInt8} {n wd k c:Nat} {A:Option Addr} {w0 w1 w2:World} {L:List (Nat × Obj)} (h:OpS p n wd w1.heap.size (.slice A k c) w2) (hE:opE p n wd=0) (hn:n≤4194304) (hm:Mem w0 w1 L) (he:Ext w1 w2) :
  Rw w0 w2 (.slice A k c) 175 1 k ((unpV p n wd).take k) L∧k≤n∧(wd≠0→k=n):=by
 rcases h with ⟨h1,h2⟩|⟨h1,h2,h3⟩|⟨h1,h2,b,h3,h4,h5⟩
 ·exact absurd hE h1
 ·cases h3;exact ⟨by rw [List.take_zero];exact Rw.nil (hm.call he),by omega,fun h=>absurd h2 h⟩
 ·cases h3;refine ⟨qwu hm he ⟨by simp [qhu],.inr ⟨b,n,_,rfl,h4,h5,Nat.le_refl _,by simp only [maxLen];omega,by simp [qhu],?_⟩⟩,Nat.le_refl _,fun _=>rfl⟩;simp [List.take_of_length_le,qhu]
theorem V.Rw.rowB {w0 w:World} {v:Value} {e:TypeId} {n:Nat} {xs:List Value} {L:List (Nat × Obj)} (h:Rw w0 w v e 1 n xs L):∃ R,Mem w0 w (L++R)∧RowB e xs R v:=by
 have hl:=h.own.1;rw [Nat.mul_one] at hl
 rcases h.own.2 with ⟨h1,h2⟩|⟨g,cap,cur,rfl,h2,h3,h4,h5,h6,h7⟩
 ·refine ⟨[],by rw [List.append_nil];exact h.mem,⟨.inl ⟨h1,?_⟩⟩⟩;exact List.eq_nil_of_length_eq_zero (by omega)
 ·refine ⟨[(g,.cells cur e (0,0))],?_,⟨.inr ⟨g,cap,cur,by rw [hl],List.mem_cons_self ..,by omega,h5,by rw [Nat.mul_one] at h6;exact h6,by rw [hl];rw [Nat.mul_one] at h7;exact h7⟩⟩⟩;have:Mem w0 w ((g,.cells cur e (0,0))::L):=by
   refine ⟨h.mem.ext,fun x hx=>?_,?_⟩
   ·rcases List.mem_cons.1 hx with rfl|hx
    ·exact ⟨h2,h3⟩
    ·exact h.mem.own x hx
   ·simp only [List.map_cons,List.nodup_cons];refine ⟨fun hm=>?_,h.mem.nodup⟩;obtain ⟨x,hx,e⟩:=List.mem_map.1 hm;exact h.apart x hx (by rw [e];rfl)
  exact this.perm (List.perm_append_comm (l₁:=L) (l₂:=[(g,Obj.cells cur e (0,0))]))
theorem V.RowB.left {e:TypeId} {xs:List Value} {L R:List (Nat × Obj)} {v:Value} (h:RowB e xs R v):RowB e xs (L++R) v:=h.keep fun _ hy _=>List.mem_append_right _ hy
theorem V.RowB.right {e:TypeId} {xs:List Value} {L R:List (Nat × Obj)} {v:Value} (h:RowB e xs L v):RowB e xs (L++R) v:=h.keep fun _ hy _=>List.mem_append_left _ hy
theorem V.RowB.more {e:TypeId} {xs:List Value} {R:List (Nat × Obj)} {x:Nat × Obj} {v:Value} (h:RowB e xs R v):RowB e xs (x::R) v:=h.keep fun _ hy _=>List.mem_cons_of_mem _ hy
def LvR (l:List UInt8) (k:Nat) (w0:World) (v:Value) (w:World):Prop:=
 (Ext w0 w∧∃ (a e:Int) (A1:Option Addr) (n1 c1:Nat) (A2:Option Addr) (n2 c2:Nat),e≠0∧(-1≤a∧a≤1125899906842624)∧v=.tuple #[.agg #[.slice A1 n1 c1,.slice A2 n2 c2],fltV a e])∨
 ((0<k→LvlV l k)∧∃ A ca B nb cb R bs,v=.tuple #[.agg #[.slice A (vNum l k) ca,.slice B nb cb],fltV 0 0]∧Mem w0 w R∧RowB 175 (unpV (qr l k) (vNum l k) (tw l k)) R (.slice A (vNum l k) ca)∧RowB 4 (bs.map Value.bool) R (.slice B nb cb)∧(0<k→nb=vNum l k∧bs=bitL (qk l k) (vNum l k)))
theorem quv {l:List UInt8} (hT:(tE l).2=0):(∀ k,k<4→(tcF l k).2=0)∧∀ k,k<4→(tvF l k).2=0:=by
 have ht0:(errF (tcF l) 4).2=0∧(errF (tvF l) 4).2=0:=by
  rw [tE] at hT
  split at hT
  ·rename_i h;exact absurd hT h
  ·split at hT
   ·rename_i h;exact absurd hT h
   ·constructor<;>omega
 exact ⟨qcd ht0.1,qcd ht0.2⟩
set_option maxHeartbeats 4000000 in
theorem qq0 (l:List UInt8) (A:Option Addr) (c k:Nat) (F:Nat→Int) (w:World) (hS:SlAt encB 1 w A l) (hc:l.length≤c) (hl:l.length≤67108864) (hF:HdF l F) (hT:(tE l).2=0) (hk3:k<4) :
  Gv Tryz.prog 116 [.slice A l.length c,hdV F,.int .i64 k] w fun v w'=>LvR l k w v w':=by
 obtain ⟨hz,hv⟩:=quv hT;obtain ⟨z1,z2,z3⟩:=qm9 (hv k hk3);have hnk:=qf1 (hz k hk3);have t1:tvAt l k+1≤tEnd l k:=by show _≤tvAt l k+1+_;omega
 have t2:tEnd l k≤tvAt l (k+1):=by rw [qbj];omega
 have lenP:(qr l k).length=tEnd l k-(tvAt l k+1):=by rw [qr,List.length_take,List.length_drop];omega
 have lenP2:(qr l k).length=(vNum l k*tw l k+7)/8:=by rw [lenP];show tvAt l k+1+(vNum l k*tw l k+7)/8-_=_;omega
 have hvec:=fun w' (hS':SlAt encB 1 w' A l) (h1:1≤k)=>qnc l A c k F w' hS' hc hl hF hT h1 (by omega)
 refine zE Tryz.func116 Tryz.ntmps116 ?_;(conv=>whnf);refine NewV.mem (Mem.nil w) ?_;intro hb w1 hm;have hm:Mem w w1 [(hb,.cells (fnA 13 (inF F)) 130 (0,0))]:=hm;(conv=>whnf);refine NewV.mem hm ?_;intro r6 w2 hm;(conv=>whnf);refine NewV.mem hm ?_;intro r7 w3 hm;(conv=>whnf);refine zX ?_;(conv=>whnf);refine LoadV.fi (x:=((tvAt l k:Nat):Int)) hm (i:=2) rfl (4+k) (by rw [show tsz Tryz.prog 3=1 from by kernel_rfl];dsimp only;omega) (by omega) (hF.w k (by omega)) ?_;(conv=>whnf);refine ElemV.bs (hS.ext hm.ext) rfl (tvAt l k) rfl (by omega) ?_;intro eb eo hc1;have hw:l[tvAt l k].toNat=tw l k:=by rw [tw,List.getD_eq_getElem?_getD,List.getElem?_eq_getElem z1];rfl
 have hwb:tw l k<256:=by rw [← hw];exact qt _
 rw [hw] at hc1;(conv=>whnf);refine LoadV.of hc1 ?_;(conv=>whnf);refine Wit.conv ⟨by omega,by omega⟩ ?_;(conv=>whnf);refine NewV.mem hm ?_;intro lb w4 hm;(conv=>whnf);refine zS hm 0 ?_;intro w5 hm;have hm:Mem w w5 [(lb,.cells #[.slice none 0 0,.slice none 0 0] 214 (0,0)),(r7,.cells #[.int .i64 0,.int .i64 0] 132 (0,0)),(r6,.cells #[.slice none 0 0,.slice none 0 0] 214 (0,0)),(hb,.cells (fnA 13 (inF F)) 130 (0,0))]:=hm;(conv=>whnf);obtain ⟨P,eP⟩:∃ P,P=(if c=tvAt l k+1 then A else A.map (·.add ((tvAt l k+1)*1))):=⟨_,rfl⟩
 have hP:SlAt encB 1 w P (qr l k):=by rw [eP];exact hS.cut (m:=c) (by omega) (by omega) (by omega) rfl
 obtain ⟨E,eE⟩:∃ E:Nat,E=opE (qr l k) (vNum l k) (tw l k):=⟨_,rfl⟩
 refine DrawV.free (by kernel_rfl) (by kernel_rfl) ?_;(conv=>whnf);refine zD ?_;(conv=>whnf);refine zD ?_;(conv=>whnf);refine zD ?_ (by intro wd hd;(conv=>whnf);(refine zA ?_;(conv=>whnf));exact ⟨Ext.refl _,rfl⟩);(conv=>whnf);refine zD ?_;(conv=>whnf);refine zD ?_;(conv=>whnf);refine zD ?_ (by intro wd hd;(conv=>whnf);(refine zX ?_;(conv=>whnf));exact ⟨Ext.refl _,rfl⟩);(conv=>whnf);apply StepD.still
 ·intro wd hd;(conv=>whnf);refine LoadV.fi (x:=((tEnd l k:Nat):Int)) (Mem.call (Mem.drew hm) hd) (i:=3) rfl (8+k) (by rw [show tsz Tryz.prog 3=1 from by kernel_rfl];dsimp only;omega) (by omega) (hF.v k (by omega)) ?_;(conv=>whnf);exact ⟨Ext.refl _,rfl⟩
 (conv=>whnf);apply StepD.still (.slice P (tEnd l k-(tvAt l k+1)) (c-(tvAt l k+1)))
 ·intro wd hd;(conv=>whnf);refine SliceV.to (tvAt l k+1) (tEnd l k) c (by show (_:Int)=_;omega) rfl rfl (by omega) (by omega) (Nat.le_refl _) (fun h=>by cases h) ?_;rw [show tsz Tryz.prog 5=1 from by kernel_rfl,← eP];(conv=>whnf);exact ⟨Ext.refl _,rfl⟩
 (conv=>whnf);refine zD ?_;(conv=>whnf);refine zD ?_;(conv=>whnf);refine zD ?_ (by intro wd hd;(conv=>whnf);(refine zX ?_;(conv=>whnf));exact ⟨Ext.refl _,rfl⟩);(conv=>whnf);apply StepD.still
 ·intro wd hd;(conv=>whnf);refine LoadV.fi (x:=((vNum l k:Nat):Int)) (Mem.call (Mem.drew hm) hd) (i:=3) rfl k (by rw [show tsz Tryz.prog 3=1 from by kernel_rfl];dsimp only;omega) (by omega) (hF.c k (by omega)) ?_;(conv=>whnf);exact ⟨Ext.refl _,rfl⟩
 (conv=>whnf);refine zD ?_;(conv=>whnf);apply StepD.of (fun v wx=>OpR (qr l k) (vNum l k) (tw l k) w5.heap.size v wx) (fun _ _ _ h he=>h.ext he)
 ·intro wd hd;(conv=>whnf);have:=qmw (qr l k) P (c-(tvAt l k+1)) (vNum l k) (tw l k) wd (hP.ext (hm.drew.ext.trans hd)) lenP2 (by omega) (by omega);rw [lenP] at this;refine CallV.of (this) ?_;rintro v w9 ⟨h1,h2⟩;exact ⟨h2,h1.base hd.size⟩
 (conv=>whnf);apply StepD.of (fun v wx=>OpR (qr l k) (vNum l k) (tw l k) w5.heap.size v wx) (fun _ _ _ h he=>h.ext he)
 ·intro wd hd;(conv=>whnf);rintro v hv;obtain ⟨A1,k1,c1,rfl,hs⟩:=OpR.split hv;(conv=>whnf);exact ⟨Ext.refl _,hv⟩
 (conv=>whnf);apply StepD.of (fun v wx=>OpS (qr l k) (vNum l k) (tw l k) w5.heap.size v wx) (fun _ _ _ h he=>h.ext he)
 ·intro wd hd;(conv=>whnf);rintro v hv;obtain ⟨A1,k1,c1,rfl,hs⟩:=OpR.split hv;conv=>whnf
  (try (rintro v2 hv2;(conv=>whnf)))
  exact ⟨Ext.refl _,hs⟩
 (conv=>whnf);apply StepD.still (.int .i64 E)
 ·intro wd hd;conv=>whnf
  (repeat (rintro v hv;(try obtain ⟨A1,k1,c1,rfl,hs⟩:=OpR.split hv);(conv=>whnf)))
  exact ⟨Ext.refl _,by rw [eE]⟩
 (conv=>whnf);apply StepD.of (fun v wx=>OpS (qr l k) (vNum l k) (tw l k) w5.heap.size v wx) (fun _ _ _ h he=>h.ext he)
 ·intro wd hd;(conv=>whnf);rintro v hv;obtain ⟨A1,k1,c1,rfl⟩:=OpS.slice hv;conv=>whnf
  (repeat (rintro v2 hv2;(first|obtain ⟨A2,k2,c2,rfl,hs⟩:=OpR.split hv2|obtain ⟨A2,k2,c2,rfl⟩:=OpS.slice hv2);(conv=>whnf)))
  exact ⟨Ext.refl _,by assumption⟩
 (conv=>whnf);apply StepD.still (.int .i64 E)
 ·intro wd hd;conv=>whnf
  (repeat (rintro v hv;(try obtain ⟨A1,k1,c1,rfl⟩:=OpS.slice hv);(conv=>whnf)))
  exact ⟨Ext.refl _,rfl⟩
 (conv=>whnf);intro w6 he6;(conv=>whnf);rintro v hv;conv=>whnf
 (repeat (rintro _ _;(conv=>whnf)))
 obtain ⟨A1,k1,c1,rfl⟩:=OpS.slice hv;have hP:=hP.ext hm.ext
 by_cases hE:opE (qr l k) (vNum l k) (tw l k)=0
 case neg=>
  have hm:=hm.drew.call he6;have hE0:E≠0:=by rw [eE];exact hE
  refine zY (fun _=>?_);(conv=>whnf);refine DrawV.inv (fun S w'=>Mem w w' [(lb,.cells #[.slice none 0 0,.slice none 0 0] 214 (0,0)),(r7,.cells (bif S 8 then #[.int .i64 (((tEnd l k:Nat):Int)-1),.int .i64 12] else #[.int .i64 0,.int .i64 0]) 132 (0,0)),(r6,.cells #[.slice none 0 0,.slice none 0 0] 214 (0,0)),(hb,.cells (fnA 13 (inF F)) 130 (0,0))]) rfl (by kernel_rfl) hm.drew ?_;clear hm;(conv=>whnf);refine StepI.of (.agg #[.slice none 0 0,.slice none 0 0]) (fun S wd hk hp hI=>?_) ?_
  ·(conv=>whnf);refine zL hI 0 ?_;(conv=>whnf);exact ⟨rfl,hI⟩
  (conv=>whnf);refine zI ?_;(conv=>whnf);refine zI ?_;(conv=>whnf);refine zI ?_ (by intro S wd hk hp hI;(conv=>whnf);(refine zX ?_;(conv=>whnf));exact ⟨rfl,hI⟩);(conv=>whnf);refine StepI.of (.int .i64 (tEnd l k:Nat)) (fun S wd hk hp hI=>?_) ?_
  ·(conv=>whnf);refine LoadV.fi (x:=((tEnd l k:Nat):Int)) hI (i:=3) rfl (8+k) (by rw [show tsz Tryz.prog 3=1 from by kernel_rfl];dsimp only;omega) (by omega) (hF.v k (by omega)) ?_;(conv=>whnf);exact ⟨rfl,hI⟩
  (conv=>whnf);refine zI ?_ (by intro S wd hk hp hI;(conv=>whnf);(refine zA ?_;(conv=>whnf));exact ⟨rfl,hI⟩);(conv=>whnf);refine zI ?_;(conv=>whnf);refine StepI.of undef (fun S wd hk hp hI=>?_) ?_
  ·(conv=>whnf);refine zS hI 2 ?_;intro wx hmx;(conv=>whnf);exact ⟨rfl,hmx⟩
  (conv=>whnf);refine StepI.of undef (fun S wd hk hp hI=>?_) ?_
  ·dsimp only at hI;rw [hk] at hI;(conv=>whnf);refine zS hI 1 ?_;intro wx hmx;(conv=>whnf);exact ⟨rfl,hmx⟩
  (conv=>whnf);intro w7 hm;have hm:Mem w w7 [(lb,.cells #[.slice none 0 0,.slice none 0 0] 214 (0,0)),(r7,.cells #[.int .i64 (((tEnd l k:Nat):Int)-1),.int .i64 12] 132 (0,0)),(r6,.cells #[.slice none 0 0,.slice none 0 0] 214 (0,0)),(hb,.cells (fnA 13 (inF F)) 130 (0,0))]:=hm;(conv=>whnf);refine qa (R:=fun v w'=>LvR l k w v w') ?_;(conv=>whnf);refine zL hm 2 ?_;(conv=>whnf);refine zL hm 1 ?_;(conv=>whnf);exact .inl ⟨hm.ext,_,_,_,_,_,_,_,_,by decide,⟨by omega,by omega⟩,rfl⟩
 have hE0:E=0:=by rw [eE];exact hE
 subst hE0;obtain ⟨hR,k1n,k1w⟩:=OpS.rw hv hE (by omega) hm ((Ext.refl _).drew.trans he6);clear hm hv;refine zN (fun _=>?_);(conv=>whnf);refine qm (fun x:Nat × Option Addr × Nat=>[(0,.slice A l.length c),(2,.int .i64 k),(4,.pointer (some ⟨hb,0,none⟩)),(6,.pointer (some ⟨r6,0,none⟩)),(7,.pointer (some ⟨r7,0,none⟩)),(8,.int .i64 (tvAt l k)),(9,.int .i64 (tw l k)),(10,.pointer (some ⟨lb,0,none⟩)),(11,.slice x.2.1 x.1 x.2.2)])
  (fun x w'=>x.1≤vNum l k∧(tw l k≠0→x.1=vNum l k)∧Rw w w' (.slice x.2.1 x.1 x.2.2) 175 1 x.1 ((unpV (qr l k) (vNum l k) (tw l k)).take x.1) [(lb,.cells #[.slice none 0 0,.slice none 0 0] 214 (0,0)),(r7,.cells #[.int .i64 0,.int .i64 0] 132 (0,0)),(r6,.cells #[.slice none 0 0,.slice none 0 0] 214 (0,0)),(hb,.cells (fnA 13 (inF F)) 130 (0,0))]) (fun x=>vNum l k-x.1) (k1,A1,c1) ⟨rfl,rfl,rfl,rfl,rfl,rfl,rfl,rfl,rfl,trivial⟩ ⟨k1n,k1w,hR⟩ ?_
 clear hR k1n k1w;rintro ⟨i,C,cc⟩ w7 ρ' ⟨i1,i2,hR⟩;dsimp only at i1 i2 hR ⊢;have hm:=hR.mem;(conv=>whnf);refine zX ?_;(conv=>whnf);refine LoadV.fi (x:=((vNum l k:Nat):Int)) hm (i:=3) rfl k (by rw [show tsz Tryz.prog 3=1 from by kernel_rfl];dsimp only;omega) (by omega) (hF.c k (by omega)) ?_;(conv=>whnf);refine zC (fun _=>?_) (fun _=>?_)<;>(conv=>whnf)
 ·refine NewV.rw hR ?_;intro nb w8 hR8;(conv=>whnf);refine AppV.one q1a u64I u64Z (by kernel_rfl) rfl (by decide +kernel) hR8 rfl (by omega) ?_;intro B' d' w9 hR9;(conv=>whnf);refine ⟨(i+1,B',d'),⟨rfl,rfl,rfl,rfl,rfl,rfl,rfl,rfl,rfl,trivial⟩,⟨by simp only;omega,fun h=>by simp only;have:=i2 h;omega,?_⟩,by simp only;omega⟩;have h0:tw l k=0:=by
   rcases Nat.eq_zero_or_pos (tw l k) with h|h
   ·exact h
   ·have:=i2 (by omega);omega
  have e:(unpV (qr l k) (vNum l k) (tw l k)).take (i+1)=(unpV (qr l k) (vNum l k) (tw l k)).take i++[.int .u64 0]:=by
   rw [h0];exact qu1 _ (by omega)
  simp only;rw [e];exact hR9
 obtain rfl:i=vNum l k:=by omega
 rw [List.take_of_length_le (by rw [qhu];exact Nat.le_refl _)] at hR;have hC:SlAt encU 1 w7 C (unpN (qr l k) (vNum l k) (tw l k)):=V.Rw.slAt (f:=fun x:Nat=>Value.int .u64 (x:Int)) (fun _=>rfl) hR (qbg ..);have hux:∀ x∈unpN (qr l k) (vNum l k) (tw l k),x<8388608:=fun x hx=>Nat.lt_of_lt_of_le (qu0 hx) (Nat.pow_le_pow_right (by decide) z2:2 ^ tw l k≤2 ^ 23)
 obtain ⟨R,hm,hB⟩:=V.Rw.rowB hR;have hm:Mem w w7 ((lb,.cells #[.slice none 0 0,.slice none 0 0] 214 (0,0))::(r7,.cells #[.int .i64 0,.int .i64 0] 132 (0,0))::(r6,.cells #[.slice none 0 0,.slice none 0 0] 214 (0,0))::(hb,.cells (fnA 13 (inF F)) 130 (0,0))::R):=hm;clear hR;refine CallV.of (qor _ C (vNum l k) cc w7 hC (qbg ..) (fun x hx=>by have:=hux x hx;omega) (by omega)) ?_;rintro r w8 ⟨⟨kk,rfl⟩,rfl⟩;(conv=>whnf);refine zC (fun _=>?_) (fun _=>?_)<;>(conv=>whnf)
 ·refine zL hm 0 ?_;(conv=>whnf);refine zS hm 2 ?_;intro w9 hm;(conv=>whnf);refine zS hm 1 ?_;intro w10 hm;(conv=>whnf);refine qa (R:=fun v w'=>LvR l k w v w') ?_;(conv=>whnf);refine zL hm 2 ?_;(conv=>whnf);refine zL hm 1 ?_;(conv=>whnf);exact .inl ⟨hm.ext,_,_,_,_,_,_,_,_,by decide,⟨by omega,by omega⟩,rfl⟩
 refine StoreV.mem hm (i:=0) rfl (by decide) rfl ?_;intro w9 hm;have hm:Mem w w9 ((lb,.cells #[.slice C (vNum l k) cc,.slice none 0 0] 214 (0,0))::(r7,.cells #[.int .i64 0,.int .i64 0] 132 (0,0))::(r6,.cells #[.slice none 0 0,.slice none 0 0] 214 (0,0))::(hb,.cells (fnA 13 (inF F)) 130 (0,0))::R):=hm;(conv=>whnf);refine zC (fun _=>?_) (fun _=>?_)<;>(conv=>whnf)
 ·refine zL hm 3 ?_;(conv=>whnf);refine CallV.of (hvec w9 (hS.ext hm.ext) (by omega)) ?_;rintro r w10 ⟨⟨a,e,he0,hab,rfl⟩|⟨hLv,B,cb,rfl,hO⟩,he10⟩
  ·have hm:=hm.call he10;(conv=>whnf);refine NewV.mem hm ?_;intro fb w11 hm;(conv=>whnf);refine zS hm 0 ?_;intro w12 hm;have hm:Mem w w12 ((fb,.cells #[.int .i64 a,.int .i64 e] 132 (0,0))::(lb,.cells #[.slice C (vNum l k) cc,.slice none 0 0] 214 (0,0))::(r7,.cells #[.int .i64 0,.int .i64 0] 132 (0,0))::(r6,.cells #[.slice none 0 0,.slice none 0 0] 214 (0,0))::(hb,.cells (fnA 13 (inF F)) 130 (0,0))::R):=hm;(conv=>whnf);refine zR hm 0 ?_;(conv=>whnf);refine zY (fun _=>?_);(conv=>whnf);refine DrawV.inv (fun S w'=>Mem w w' ((fb,.cells #[.int .i64 a,.int .i64 e] 132 (0,0))::(lb,.cells #[.slice C (vNum l k) cc,.slice none 0 0] 214 (0,0))::(r7,.cells (bif S 3 then #[.int .i64 a,.int .i64 e] else #[.int .i64 0,.int .i64 0]) 132 (0,0))::(r6,.cells (bif S 2 then #[.slice C (vNum l k) cc,.slice none 0 0] else #[.slice none 0 0,.slice none 0 0]) 214 (0,0))::(hb,.cells (fnA 13 (inF F)) 130 (0,0))::R)) rfl (by kernel_rfl) hm.drew ?_;clear hm;(conv=>whnf);refine StepI.of (.agg #[.slice C (vNum l k) cc,.slice none 0 0]) (fun S wd hk hp hI=>?_) ?_
   ·(conv=>whnf);refine zL hI 1 ?_;(conv=>whnf);exact ⟨rfl,hI⟩
   (conv=>whnf);refine StepI.of (.agg #[.int .i64 a,.int .i64 e]) (fun S wd hk hp hI=>?_) ?_
   ·(conv=>whnf);refine zL hI 0 ?_;(conv=>whnf);exact ⟨rfl,hI⟩
   (conv=>whnf);refine StepI.of undef (fun S wd hk hp hI=>?_) ?_
   ·dsimp only at hI;rw [hk] at hI;(conv=>whnf);refine zS hI 3 ?_;intro wx hmx;(conv=>whnf);exact ⟨rfl,hmx⟩
   (conv=>whnf);refine StepI.of undef (fun S wd hk hp hI=>?_) ?_
   ·dsimp only at hI;rw [hk] at hI;(conv=>whnf);refine zS hI 2 ?_;intro wx hmx;(conv=>whnf);exact ⟨rfl,hmx⟩
   (conv=>whnf);intro w13 hm;have hm:Mem w w13 ((fb,.cells #[.int .i64 a,.int .i64 e] 132 (0,0))::(lb,.cells #[.slice C (vNum l k) cc,.slice none 0 0] 214 (0,0))::(r7,.cells #[.int .i64 a,.int .i64 e] 132 (0,0))::(r6,.cells #[.slice C (vNum l k) cc,.slice none 0 0] 214 (0,0))::(hb,.cells (fnA 13 (inF F)) 130 (0,0))::R):=hm;(conv=>whnf);refine qa (R:=fun v w'=>LvR l k w v w') ?_;(conv=>whnf);refine zL hm 3 ?_;(conv=>whnf);refine zL hm 2 ?_;(conv=>whnf);exact .inl ⟨hm.ext,_,_,_,_,_,_,_,_,he0,hab,rfl⟩
  ·obtain ⟨R2,hm,hB2⟩:=V.Mem.row hm he10 hO (Nat.le_refl _);have hm:Mem w w10 ((lb,.cells #[.slice C (vNum l k) cc,.slice none 0 0] 214 (0,0))::(r7,.cells #[.int .i64 0,.int .i64 0] 132 (0,0))::(r6,.cells #[.slice none 0 0,.slice none 0 0] 214 (0,0))::(hb,.cells (fnA 13 (inF F)) 130 (0,0))::(R++R2)):=hm;have hB1:RowB 175 (unpV (qr l k) (vNum l k) (tw l k)) (R++R2) (.slice C (vNum l k) cc):=V.RowB.right hB;have hB2:RowB 4 ((bitL (qk l k) (vNum l k)).map Value.bool) (R++R2) (.slice B (vNum l k) cb):=V.RowB.left hB2;generalize R++R2=R3 at hm hB1 hB2;clear hO hB;(conv=>whnf);refine NewV.mem hm ?_;intro fb w11 hm;(conv=>whnf);refine zS hm 0 ?_;intro w12 hm;(conv=>whnf);refine zR hm 0 ?_;(conv=>whnf);refine zN (fun _=>?_);(conv=>whnf);have hm:=hm.sub (List.sublist_cons_self ..);refine StoreV.mem hm (i:=0) rfl (show 1<2 by decide) rfl ?_;intro w13 hm;have hm:Mem w w13 ((lb,.cells #[.slice C (vNum l k) cc,.slice B (vNum l k) cb] 214 (0,0))::(r7,.cells #[.int .i64 0,.int .i64 0] 132 (0,0))::(r6,.cells #[.slice none 0 0,.slice none 0 0] 214 (0,0))::(hb,.cells (fnA 13 (inF F)) 130 (0,0))::R3):=hm;(conv=>whnf);refine qm (fun i:Nat=>[(2,.int .i64 k),(6,.pointer (some ⟨r6,0,none⟩)),(7,.pointer (some ⟨r7,0,none⟩)),(8,.int .i64 (tvAt l k)),(10,.pointer (some ⟨lb,0,none⟩)),(11,.slice C (vNum l k) cc),(15,.int .i64 i)])
    (fun i w'=>i≤vNum l k∧Mem w w' ((lb,.cells #[.slice C (vNum l k) cc,.slice B (vNum l k) cb] 214 (0,0))::(r7,.cells #[.int .i64 0,.int .i64 0] 132 (0,0))::(r6,.cells #[.slice none 0 0,.slice none 0 0] 214 (0,0))::(hb,.cells (fnA 13 (inF F)) 130 (0,0))::R3)) (fun i=>vNum l k-i) 0 ⟨rfl,rfl,rfl,rfl,rfl,rfl,rfl,trivial⟩ ⟨Nat.zero_le _,hm⟩ ?_
   clear hm;rintro i w14 ρ2 ⟨i1,hm⟩;have hCc:SlAt encU 1 w14 C (unpN (qr l k) (vNum l k) (tw l k)):=V.RowB.slf (f:=fun x:Nat=>Value.int .u64 (x:Int)) (fun _=>rfl) hB1 hm (fun x hx=>by simp [hx]);have hBc:SlAt encO 1 w14 B (bitL (qk l k) (vNum l k)):=V.RowB.slf (f:=Value.bool) (fun _=>rfl) hB2 hm (fun x hx=>by simp [hx]);have hBl:(bitL (qk l k) (vNum l k)).length=vNum l k:=by simp [bitL]
   (conv=>whnf)
   (repeat' (first|((with_reducible refine zT ?_);(conv=>whnf))|((with_reducible refine zC (fun _=>?_) (fun _=>?_))<;>first|(exfalso;omega)|(conv=>whnf))))
   ·refine ElemV.sl hCc (qbg ..) i (by omega) (by omega) ?_;intro eb eo hcell;(conv=>whnf);refine zT ?_;(conv=>whnf);refine LoadV.cell0 hcell ?_;conv=>whnf
    (repeat' (first|((with_reducible refine zT ?_);(conv=>whnf))|((with_reducible refine zU ?_);(conv=>whnf))|((with_reducible refine zC (fun _=>?_) (fun _=>?_))<;>first|(exfalso;omega)|(conv=>whnf))))
    ·refine zL hm 0 ?_;(conv=>whnf);refine zA ?_;(conv=>whnf);refine zS hm 2 ?_;intro wa hm;(conv=>whnf);refine zS hm 1 ?_;intro wb hm;(conv=>whnf);refine qa (R:=fun v w'=>LvR l k w v w') ?_;(conv=>whnf);refine zL hm 2 ?_;(conv=>whnf);refine zL hm 1 ?_;(conv=>whnf);exact .inl ⟨hm.ext,_,_,_,_,_,_,_,_,by decide,⟨by omega,by omega⟩,rfl⟩
    refine ElemV.sl hCc (qbg ..) i (by omega) (by omega) ?_;intro eb eo hcell;(conv=>whnf);refine zU ?_;(conv=>whnf);refine LoadV.cell0 hcell ?_;(conv=>whnf);(iterate 2 (refine zU ?_;(conv=>whnf)));refine zC (fun _=>?_) (fun _=>?_)<;>(conv=>whnf)
    ·refine zL hm 0 ?_;(conv=>whnf);refine zA ?_;(conv=>whnf);refine zS hm 2 ?_;intro wa hm;(conv=>whnf);refine zS hm 1 ?_;intro wb hm;(conv=>whnf);refine qa (R:=fun v w'=>LvR l k w v w') ?_;(conv=>whnf);refine zL hm 2 ?_;(conv=>whnf);refine zL hm 1 ?_;(conv=>whnf);exact .inl ⟨hm.ext,_,_,_,_,_,_,_,_,by decide,⟨by omega,by omega⟩,rfl⟩
    have hm:=hm.drew;have hCc:=hCc.ext (Ext.refl w14).drew;have hBc:=hBc.ext (Ext.refl w14).drew;refine DrawV.quiet (by kernel_rfl) (by kernel_rfl) ?_;conv=>whnf
    (repeat' (first|(refine zA ?_;(conv=>whnf))|((with_reducible refine zT ?_);(conv=>whnf))|((with_reducible refine zU ?_);(conv=>whnf))|((with_reducible refine zC (fun _=>?_) (fun _=>?_))<;>first|(exfalso;omega)|(conv=>whnf))|((with_reducible refine zW ?_);(conv=>whnf))))
    ·refine zR hm 0 ?_;(conv=>whnf);(iterate 2 (refine zW ?_;(conv=>whnf);refine zU ?_;(conv=>whnf)));refine zA ?_;(conv=>whnf);refine zW ?_;(conv=>whnf);refine zU ?_;(conv=>whnf);refine ElemV.sl hBc hBl (i-1) (by omega) (by omega) ?_;intro eb eo hcell;(conv=>whnf);refine zW ?_;(conv=>whnf);refine zU ?_;(conv=>whnf);refine LoadV.cell0 hcell ?_;(conv=>whnf);refine zW ?_;(conv=>whnf);(iterate 2 (refine zU ?_;(conv=>whnf);refine zW ?_;(conv=>whnf);refine zT ?_;(conv=>whnf)));(iterate 2 (refine zW ?_;(conv=>whnf)));refine zP ?_;obtain ⟨b,hb⟩:∃ b,b=(bitL (qk l k) (vNum l k))[i-1]:=⟨_,rfl⟩
     rw [← hb];cases b
     ·(conv=>whnf);refine zU ?_;(conv=>whnf);(iterate 2 (refine zW ?_;(conv=>whnf);refine zT ?_;(conv=>whnf)));refine ElemV.sl hCc (qbg ..) i (by omega) (by omega) ?_;intro eb eo hcell;(conv=>whnf);refine zW ?_;(conv=>whnf);refine zT ?_;(conv=>whnf);refine LoadV.cell0 hcell ?_;(conv=>whnf);(iterate 3 (refine zW ?_;(conv=>whnf);refine zT ?_;(conv=>whnf)));refine zA ?_;(conv=>whnf);refine zW ?_;(conv=>whnf);refine zT ?_;(conv=>whnf);refine ElemV.sl hCc (qbg ..) (i-1) (by omega) (by omega) ?_;intro eb eo hcell;(conv=>whnf);refine zW ?_;(conv=>whnf);refine zT ?_;(conv=>whnf);refine LoadV.cell0 hcell ?_;conv=>whnf
      (repeat' (first|(refine zA ?_;(conv=>whnf))|((with_reducible refine zT ?_);(conv=>whnf))|((with_reducible refine zC (fun _=>?_) (fun _=>?_))<;>first|(exfalso;omega)|(conv=>whnf))|((with_reducible refine zW ?_);(conv=>whnf))))
      ·refine zL hm 0 ?_;(conv=>whnf);refine zA ?_;(conv=>whnf);refine zS hm 2 ?_;intro wa hm;(conv=>whnf);refine zS hm 1 ?_;intro wb hm;(conv=>whnf);refine qa (R:=fun v w'=>LvR l k w v w') ?_;(conv=>whnf);refine zL hm 2 ?_;(conv=>whnf);refine zL hm 1 ?_;(conv=>whnf);exact .inl ⟨hm.ext,_,_,_,_,_,_,_,_,by decide,⟨by omega,by omega⟩,rfl⟩
      ·exact ⟨i+1,⟨rfl,rfl,rfl,rfl,rfl,rfl,rfl,trivial⟩,⟨by omega,hm⟩,by omega⟩
     ·(conv=>whnf);refine zT ?_;(conv=>whnf);(iterate 10 (refine zU ?_;(conv=>whnf)));refine zW ?_;(conv=>whnf);refine zU ?_;(conv=>whnf);refine zA ?_;(conv=>whnf);exact ⟨i+1,⟨rfl,rfl,rfl,rfl,rfl,rfl,rfl,trivial⟩,⟨by omega,hm⟩,by omega⟩
    ·exact ⟨i+1,⟨rfl,rfl,rfl,rfl,rfl,rfl,rfl,trivial⟩,⟨by omega,hm⟩,by omega⟩
   ·obtain rfl:i=vNum l k:=by omega
    refine zL hm 0 ?_;(conv=>whnf);refine zS hm 2 ?_;intro wa hm;(conv=>whnf);refine zS hm 1 ?_;intro wb hm;(conv=>whnf);refine qa (R:=fun v w'=>LvR l k w v w') ?_;(conv=>whnf);refine zL hm 2 ?_;(conv=>whnf);refine zL hm 1 ?_;(conv=>whnf);exact .inr ⟨fun _=>hLv,C,cc,B,vNum l k,cb,_,_,rfl,hm,V.RowB.more (V.RowB.more (V.RowB.more (V.RowB.more hB1))),V.RowB.more (V.RowB.more (V.RowB.more (V.RowB.more hB2))),fun _=>⟨rfl,rfl⟩⟩
 ·have hk0:k=0:=by omega
  refine qm (fun i:Nat=>[(2,.int .i64 k),(6,.pointer (some ⟨r6,0,none⟩)),(7,.pointer (some ⟨r7,0,none⟩)),(8,.int .i64 (tvAt l k)),(10,.pointer (some ⟨lb,0,none⟩)),(11,.slice C (vNum l k) cc),(15,.int .i64 i)])
   (fun i w'=>i≤vNum l k∧Mem w w' ((lb,.cells #[.slice C (vNum l k) cc,.slice none 0 0] 214 (0,0))::(r7,.cells #[.int .i64 0,.int .i64 0] 132 (0,0))::(r6,.cells #[.slice none 0 0,.slice none 0 0] 214 (0,0))::(hb,.cells (fnA 13 (inF F)) 130 (0,0))::R)) (fun i=>vNum l k-i) 0 ⟨rfl,rfl,rfl,rfl,rfl,rfl,rfl,trivial⟩ ⟨Nat.zero_le _,hm⟩ ?_
  clear hm;rintro i w14 ρ2 ⟨i1,hm⟩;have hCc:SlAt encU 1 w14 C (unpN (qr l k) (vNum l k) (tw l k)):=V.RowB.slf (f:=fun x:Nat=>Value.int .u64 (x:Int)) (fun _=>rfl) hB hm (fun x hx=>by simp [hx]);conv=>whnf
  (repeat' (first|((with_reducible refine zU ?_);(conv=>whnf))|((with_reducible refine zC (fun _=>?_) (fun _=>?_))<;>first|(exfalso;omega)|(conv=>whnf))))
  ·refine ElemV.sl hCc (qbg ..) i (by omega) (by omega) ?_;intro eb eo hcell;(conv=>whnf);refine zU ?_;(conv=>whnf);refine LoadV.cell0 hcell ?_;(conv=>whnf);(iterate 2 (refine zU ?_;(conv=>whnf)));refine zC (fun _=>?_) (fun _=>?_)<;>(conv=>whnf)
   ·refine zL hm 0 ?_;(conv=>whnf);refine zA ?_;(conv=>whnf);refine zS hm 2 ?_;intro wa hm;(conv=>whnf);refine zS hm 1 ?_;intro wb hm;(conv=>whnf);refine qa (R:=fun v w'=>LvR l k w v w') ?_;(conv=>whnf);refine zL hm 2 ?_;(conv=>whnf);refine zL hm 1 ?_;(conv=>whnf);exact .inl ⟨hm.ext,_,_,_,_,_,_,_,_,by decide,⟨by omega,by omega⟩,rfl⟩
   have hm:=hm.drew;have hCc:=hCc.ext (Ext.refl w14).drew;refine DrawV.quiet (by kernel_rfl) (by kernel_rfl) ?_;conv=>whnf
   (repeat' (first|(refine zA ?_;(conv=>whnf))|((with_reducible refine zT ?_);(conv=>whnf))|((with_reducible refine zU ?_);(conv=>whnf))|((with_reducible refine zC (fun _=>?_) (fun _=>?_))<;>first|(exfalso;omega)|(conv=>whnf))|((with_reducible refine zW ?_);(conv=>whnf))))
   ·refine ElemV.sl hCc (qbg ..) i (by omega) (by omega) ?_;intro eb eo hcell;(conv=>whnf);refine zW ?_;(conv=>whnf);refine zT ?_;(conv=>whnf);refine LoadV.cell0 hcell ?_;(conv=>whnf);(iterate 3 (refine zW ?_;(conv=>whnf);refine zT ?_;(conv=>whnf)));refine zA ?_;(conv=>whnf);refine zW ?_;(conv=>whnf);refine zT ?_;(conv=>whnf);refine ElemV.sl hCc (qbg ..) (i-1) (by omega) (by omega) ?_;intro eb eo hcell;(conv=>whnf);refine zW ?_;(conv=>whnf);refine zT ?_;(conv=>whnf);refine LoadV.cell0 hcell ?_;conv=>whnf
    (repeat' (first|(refine zA ?_;(conv=>whnf))|((with_reducible refine zT ?_);(conv=>whnf))|((with_reducible refine zC (fun _=>?_) (fun _=>?_))<;>first|(exfalso;omega)|(conv=>whnf))|((with_reducible refine zW ?_);(conv=>whnf))))
    ·refine zL hm 0 ?_;(conv=>whnf);refine zA ?_;(conv=>whnf);refine zS hm 2 ?_;intro wa hm;(conv=>whnf);refine zS hm 1 ?_;intro wb hm;(conv=>whnf);refine qa (R:=fun v w'=>LvR l k w v w') ?_;(conv=>whnf);refine zL hm 2 ?_;(conv=>whnf);refine zL hm 1 ?_;(conv=>whnf);exact .inl ⟨hm.ext,_,_,_,_,_,_,_,_,by decide,⟨by omega,by omega⟩,rfl⟩
    ·exact ⟨i+1,⟨rfl,rfl,rfl,rfl,rfl,rfl,rfl,trivial⟩,⟨by omega,hm⟩,by omega⟩
   ·exact ⟨i+1,⟨rfl,rfl,rfl,rfl,rfl,rfl,rfl,trivial⟩,⟨by omega,hm⟩,by omega⟩
  ·obtain rfl:i=vNum l k:=by omega
   refine zL hm 0 ?_;(conv=>whnf);refine zS hm 2 ?_;intro wa hm;(conv=>whnf);refine zS hm 1 ?_;intro wb hm;(conv=>whnf);refine qa (R:=fun v w'=>LvR l k w v w') ?_;(conv=>whnf);refine zL hm 2 ?_;(conv=>whnf);refine zL hm 1 ?_;(conv=>whnf);exact .inr ⟨fun h=>by omega,C,cc,none,0,0,_,[],rfl,hm,V.RowB.more (V.RowB.more (V.RowB.more (V.RowB.more hB))),RowB.nil _ _,fun h=>by omega⟩
open Go.RowKit V
set_option maxRecDepth 100000
theorem qph {w0 w w':World} {L L2:List (Nat × Obj)} (h:Mem w0 w L) (hm:Mem w w' L2):Mem w0 w' (L++L2):=by
 have hc:=h.call hm.ext;refine ⟨hc.ext,fun x hx=>?_,?_⟩
 ·rcases List.mem_append.1 hx with hx|hx
  ·exact hc.own x hx
  ·exact ⟨Nat.le_trans h.ext.size (hm.own x hx).1,(hm.own x hx).2⟩
 ·rw [List.map_append,List.nodup_append];refine ⟨h.nodup,hm.nodup,fun a ha b hb hab=>?_⟩;obtain ⟨x,hx,rfl⟩:=List.mem_map.1 ha;obtain ⟨y,hy,rfl⟩:=List.mem_map.1 hb;have h1:=(hm.own y hy).1;have h2:=h.lt (b:=x.1) (o:=x.2) hx;omega
def LevV (l:List UInt8) (m:Nat) (u v:Value) (R:List (Nat × Obj)):Prop:=
 (0<m→LvlV l m)∧∃ A ca B nb cb bs,u=.slice A (vNum l m) ca∧v=.slice B nb cb∧RowB 175 (unpV (qr l m) (vNum l m) (tw l m)) R u∧RowB 4 (bs.map Value.bool) R v∧(0<m→nb=vNum l m∧bs=bitL (qk l m) (vNum l m))
theorem LevV.keep {l:List UInt8} {m:Nat} {u v:Value} {R R':List (Nat × Obj)} (h:LevV l m u v R) (hk:∀ x∈R,x∈R'):LevV l m u v R':=by
 obtain ⟨h1,A,ca,B,nb,cb,bs,h2,h3,h4,h5,h6⟩:=h;exact ⟨h1,A,ca,B,nb,cb,bs,h2,h3,h4.keep fun y hy _=>hk y hy,h5.keep fun y hy _=>hk y hy,h6⟩
theorem qyg (n:Nat) (G:Nat→Value) (i:Nat) (u v:Value) (h:i+2≤n):((fnA n G).toList.take i++[u,v]++(fnA n G).toList.drop (i+2)).toArray=fnA n (updF (updF G i u) (i+1) v):=by
 rw [← Array.toList_inj];simp only [fnA];apply List.ext_getElem?;intro j;rw [List.append_assoc,List.getElem?_append,List.getElem?_map];simp only [List.length_take,List.length_map,List.length_range,Nat.min_eq_left (show i≤n by omega)]
 by_cases h1:j<i
 ·rw [if_pos h1,List.getElem?_take,if_pos h1,List.getElem?_map,List.getElem?_range (by omega)];simp [updF,show j≠i by omega,show j≠i+1 by omega]
 ·rw [if_neg h1]
  by_cases h2:j=i
  ·subst h2;rw [Nat.sub_self,List.getElem?_range (by omega)];simp [updF]
  ·by_cases h3:j=i+1
   ·subst h3;rw [Nat.add_sub_cancel_left,List.getElem?_range (by omega)];simp [updF]
   ·obtain ⟨d,rfl⟩:∃ d,j=i+2+d:=⟨j-(i+2),by omega⟩
    rw [show i+2+d-i=d+1+1 by omega];simp only [List.cons_append,List.nil_append,List.getElem?_cons_succ,List.getElem?_drop,List.getElem?_map]
    by_cases h4:i+2+d<n
    ·rw [List.getElem?_range h4];simp [updF,show i+2+d≠i by omega,show i+2+d≠i+1 by omega]
    ·rw [List.getElem?_eq_none (by simp;omega)];rfl
theorem qzb {w0 w:World} {v:Value} {e:TypeId} {size m:Nat} {xs:List Value} {L:List (Nat × Obj)} {i b off n:Nat} {F:Nat→Int} {t:TypeId} {x:Int} {K:World→Prop} (h:Rw w0 w v e size m xs L) (hi:L[i]?=some (b,.cells (fnA n (inF F)) t (0,0))) (j:Nat) (e':off=j) (hj:j<n)
  (hk:∀ w',Rw w0 w' v e size m xs (L.set i (b,.cells (fnA n (inF (updI F j x))) t (0,0)))→K w'):StoreV w b off (.int .i64 x) K:=by
 subst e';refine StoreV.own (h.mem.get (List.mem_of_getElem? hi)) (by rw [qg];exact hj) rfl fun w' hw=>hk w' ?_;have:=Rw.setCell h hi hw
 rwa [qh6,qu2] at this
def idsC (l:List UInt8) (i:Nat):List Value:=[.int .i64 (tNum l i 0),.int .i64 (tNum l i 1),.int .i64 (tNum l i 2),.int .i64 (tNum l i 3)]
def idsL (l:List UInt8) (n:Nat):List Value:=((List.range n).map (idsC l)).flatten
theorem qqw (l:List UInt8) (k most:Nat):(numE l k most).1≤l.length:=by
 unfold numE
 split
 ·exact qbs l k
 ·split
  ·exact qbs l k
  ·exact Nat.zero_le _
theorem qkm {f:Nat→Nat × Nat} {B:Nat}:∀ n,(∀ k,k<n→(f k).1≤B)→(errF f n).1≤B
 | 0,_=>Nat.zero_le _
 | n+1,h=>by
  rw [errF]
  split
  ·exact qkm n fun k hk=>h k (by omega)
  ·exact h n (by omega)
theorem q07 (l:List UInt8):(tE l).1≤l.length:=by
 have h1:∀ k,(tcF l k).1≤l.length:=fun k=>by
  have:=qqw l k 1048576;have:=qbs l k;unfold tcF
  split
  ·assumption
  ·split
   ·assumption
   ·exact Nat.zero_le _
 have h2:∀ k,(tvF l k).1≤l.length:=fun k=>by
  unfold tvF
  split
  ·exact Nat.le_refl _
  ·split
   ·show tvAt l k≤_;omega
   ·split
    ·exact Nat.le_refl _
    ·exact Nat.zero_le _
 unfold tE
 split
 ·exact qkm 4 fun k _=>h1 k
 ·split
  ·exact qkm 4 fun k _=>h2 k
  ·split
   ·show tvAt l 4≤_;omega
   ·exact Nat.zero_le _
def TopR (l:List UInt8) (base:Nat) (v:Value) (w:World):Prop:=
 (∃ a e:Int,e≠0∧(-1≤a∧a≤1125899906842624)∧v=.tuple #[.slice none 0 0,fltV a e])∨
 ((tE l).2=0∧(∀ k,1≤k→k≤3→LvlV l k)∧∃ B c,v=.tuple #[.slice B (vNum l 3) c,fltV 0 0]∧w.ownsRow base 153 4 (.slice B (vNum l 3) c) (vNum l 3) (idsL l (vNum l 3)))
theorem q0y:Tryz.prog.underlying 141=some (.slice 153):=Tryz.underlying141
theorem idsI:Tryz.prog.info? 153=some ((Tryz.prog.info? 153).get (by kernel_rfl)):=(Option.some_get _).symm
theorem idsZ:((Tryz.prog.info? 153).get (by kernel_rfl)).zero=some ((((Tryz.prog.info? 153).get (by kernel_rfl)).zero).get (by kernel_rfl)):=(Option.some_get _).symm
set_option maxHeartbeats 4000000 in
theorem qux (l:List UInt8) (A:Option Addr) (c:Nat) (w:World) (hS:SlAt encB 1 w A l) (hc:l.length≤c) (hl:l.length≤67108864) :
  Gv Tryz.prog 63 [.slice A l.length c] w fun v w'=>TopR l w.heap.size v w'∧Ext w w':=by
 have hop:=fun k F w' (hS':SlAt encB 1 w' A l)=>qq0 l A c k F w' hS' hc hl
 refine zE Tryz.func63 Tryz.ntmps63 ?_;(conv=>whnf);refine NewV.mem (Mem.nil w) ?_;intro r3 w1 hm;(conv=>whnf);refine CallV.of (qmy l A _ c w1 (hS.ext hm.ext) rfl hc (by omega)) ?_;rintro r w2 ⟨hT,he2⟩;have hm:=hm.call he2
 rcases hT with ⟨hE,F,rfl⟩|⟨hE,F,hF,rfl⟩
 ·(conv=>whnf);refine NewV.mem hm ?_;intro hb w3 hm;(conv=>whnf);refine NewV.mem hm ?_;intro fb w4 hm;(conv=>whnf);refine StoreA.all hm (i:=1) rfl (by simp [qg]) (qar 13 F) ?_;intro w5 hm;(conv=>whnf);refine zS hm 0 ?_;intro w6 hm;(conv=>whnf);refine zR hm 0 ?_;(conv=>whnf);refine zY (fun _=>?_);(conv=>whnf);refine DrawV.inv (fun S w'=>Mem w w' ([(fb,.cells #[.int .i64 (tE l).1,.int .i64 (tE l).2] 132 (0,0)),(hb,.cells (fnA 13 (inF F)) 130 (0,0)),(r3,.cells (bif S 2 then #[.int .i64 (tE l).1,.int .i64 (tE l).2] else #[.int .i64 0,.int .i64 0]) 132 (0,0))])) rfl (by kernel_rfl) hm.drew ?_;clear hm;(conv=>whnf);refine StepI.of (.agg #[.int .i64 (tE l).1,.int .i64 (tE l).2]) (fun S wd hk hp hI=>?_) ?_
  ·(conv=>whnf);refine zL hI 0 ?_;(conv=>whnf);exact ⟨rfl,hI⟩
  (conv=>whnf);refine zI ?_;(conv=>whnf);refine StepI.of undef (fun S wd hk hp hI=>?_) ?_
  ·dsimp only at hI;rw [hk] at hI;(conv=>whnf);refine zS hI 2 ?_;intro wx hmx;(conv=>whnf);exact ⟨rfl,hmx⟩
  (conv=>whnf);intro wz hm;have hm:Mem w wz ([(fb,.cells #[.int .i64 (tE l).1,.int .i64 (tE l).2] 132 (0,0)),(hb,.cells (fnA 13 (inF F)) 130 (0,0)),(r3,.cells #[.int .i64 (tE l).1,.int .i64 (tE l).2] 132 (0,0))]):=hm;(conv=>whnf);refine qa (R:=fun v w'=>TopR l w.heap.size v w'∧Ext w w') ?_;(conv=>whnf);refine zL hm 2 ?_;(conv=>whnf);exact ⟨.inl ⟨_,_,(by omega),⟨by omega,by have:=q07 l;omega⟩,rfl⟩,hm.ext⟩
 (conv=>whnf);refine NewV.mem hm ?_;intro hb w3 hm;(conv=>whnf);refine NewV.mem hm ?_;intro fb w4 hm;(conv=>whnf);refine StoreA.all hm (i:=1) rfl (by simp [qg]) (qar 13 F) ?_;intro w5 hm;(conv=>whnf);refine zS hm 0 ?_;intro w6 hm;(conv=>whnf);refine zR hm 0 ?_;(conv=>whnf);refine zN (fun _=>?_);(conv=>whnf);refine NewV.mem hm ?_;intro lv w7 hm;have hm:Mem w w7 [(lv,.cells (fnA 8 fun _=>.slice none 0 0) 215 (0,0)),(fb,.cells #[.int .i64 0,.int .i64 0] 132 (0,0)),(hb,.cells (fnA 13 (inF F)) 130 (0,0)),(r3,.cells #[.int .i64 0,.int .i64 0] 132 (0,0))]:=hm;(conv=>whnf);refine qm (fun k:Nat=>[(0,.slice A l.length c),(3,.pointer (some ⟨r3,0,none⟩)),(4,.pointer (some ⟨hb,0,none⟩)),(6,.pointer (some ⟨lv,0,none⟩)),(7,.int .i64 k)])
  (fun k w'=>k≤4∧∃ G R,Mem w w' ((lv,.cells (fnA 8 G) 215 (0,0))::(fb,.cells #[.int .i64 0,.int .i64 0] 132 (0,0))::(hb,.cells (fnA 13 (inF F)) 130 (0,0))::(r3,.cells #[.int .i64 0,.int .i64 0] 132 (0,0))::R)∧∀ m,m<k→LevV l m (G (2*m)) (G (2*m+1)) R) (fun k=>4-k) 0
  ⟨rfl,rfl,rfl,rfl,rfl,trivial⟩ ⟨by omega,_,[],hm,fun m h=>by omega⟩ ?_
 clear hm;rintro k w8 ρ' ⟨k1,G,R,hm,hG⟩;(conv=>whnf);refine zC (fun _=>?_) (fun _=>?_)<;>(conv=>whnf)
 ·refine LoadA.mem hm (i:=2) rfl (by simp [qg];rfl) ?_;(conv=>whnf);refine CallV.of (hop k F w8 (hS.ext hm.ext) hF hE (by omega)) ?_;rintro r w9 (⟨hx,a,e,A1,n1,c1,A2,n2,c2,he0,hab,rfl⟩|⟨hLv,A1,ca,B,nb,cb,R2,bs,rfl,hm2,hr1,hr2,hbs⟩)
  ·have hm:=hm.call hx;(conv=>whnf);refine NewV.mem hm ?_;intro eb w10 hm;(conv=>whnf);refine NewV.mem hm ?_;intro gb w11 hm;(conv=>whnf);refine zS hm 1 ?_;intro w12 hm;(conv=>whnf);refine zS hm 0 ?_;intro w13 hm;(conv=>whnf);refine zR hm 0 ?_;(conv=>whnf);refine zY (fun _=>?_);(conv=>whnf);refine DrawV.inv (fun S w'=>Mem w w' ((gb,.cells #[.int .i64 a,.int .i64 e] 132 (0,0))::(eb,.cells #[.slice A1 n1 c1,.slice A2 n2 c2] 214 (0,0))::(lv,.cells (fnA 8 G) 215 (0,0))::(fb,.cells #[.int .i64 0,.int .i64 0] 132 (0,0))::(hb,.cells (fnA 13 (inF F)) 130 (0,0))::(r3,.cells (bif S 2 then #[.int .i64 a,.int .i64 e] else #[.int .i64 0,.int .i64 0]) 132 (0,0))::R)) rfl (by kernel_rfl) hm.drew ?_;clear hm;(conv=>whnf);refine StepI.of (.agg #[.int .i64 a,.int .i64 e]) (fun S wd hk hp hI=>?_) ?_
   ·(conv=>whnf);refine zL hI 0 ?_;(conv=>whnf);exact ⟨rfl,hI⟩
   (conv=>whnf);refine zI ?_;(conv=>whnf);refine StepI.of undef (fun S wd hk hp hI=>?_) ?_
   ·dsimp only at hI;rw [hk] at hI;(conv=>whnf);refine zS hI 5 ?_;intro wx hmx;(conv=>whnf);exact ⟨rfl,hmx⟩
   (conv=>whnf);intro wz hm;have hm:Mem w wz ((gb,.cells #[.int .i64 a,.int .i64 e] 132 (0,0))::(eb,.cells #[.slice A1 n1 c1,.slice A2 n2 c2] 214 (0,0))::(lv,.cells (fnA 8 G) 215 (0,0))::(fb,.cells #[.int .i64 0,.int .i64 0] 132 (0,0))::(hb,.cells (fnA 13 (inF F)) 130 (0,0))::(r3,.cells #[.int .i64 a,.int .i64 e] 132 (0,0))::R):=hm;(conv=>whnf);refine qa (R:=fun v w'=>TopR l w.heap.size v w'∧Ext w w') ?_;(conv=>whnf);refine zL hm 5 ?_;(conv=>whnf);exact ⟨.inl ⟨_,_,he0,hab,rfl⟩,hm.ext⟩
  ·have hm:=qph hm hm2;have hm:Mem w w9 ((lv,.cells (fnA 8 G) 215 (0,0))::(fb,.cells #[.int .i64 0,.int .i64 0] 132 (0,0))::(hb,.cells (fnA 13 (inF F)) 130 (0,0))::(r3,.cells #[.int .i64 0,.int .i64 0] 132 (0,0))::(R++R2)):=hm;have hG1:∀ m,m<k→LevV l m (G (2*m)) (G (2*m+1)) (R++R2):=fun m h=>(hG m h).keep fun x hx=>List.mem_append_left _ hx
   have hG2:LevV l k (.slice A1 (vNum l k) ca) (.slice B nb cb) (R++R2):=⟨hLv,A1,ca,B,nb,cb,bs,rfl,rfl,V.RowB.left hr1,V.RowB.left hr2,hbs⟩
   clear hm2 hr1 hr2 hG;generalize R++R2=R3 at hm hG1 hG2;(conv=>whnf);refine NewV.mem hm ?_;intro eb w10 hm;(conv=>whnf);refine NewV.mem hm ?_;intro gb w11 hm;(conv=>whnf);refine zS hm 1 ?_;intro w12 hm;(conv=>whnf);refine zS hm 0 ?_;intro w13 hm;(conv=>whnf);refine zR hm 0 ?_;(conv=>whnf);refine zN (fun _=>?_);(conv=>whnf);refine zL hm 1 ?_;(conv=>whnf);refine zX ?_;(conv=>whnf);rw [show tsz Tryz.prog 214=2 from by kernel_rfl,show 0+k*2=2*k by omega];refine StoreA.mem hm (i:=2) rfl (by rw [qg];show 2*k+2≤8;omega) (by simp [Value.oneCell']) ?_;intro w14 hm;have hm:Mem w w14 ((gb,.cells #[.int .i64 0,.int .i64 0] 132 (0,0))::(eb,.cells #[.slice A1 (vNum l k) ca,.slice B nb cb] 214 (0,0))::(lv,.cells (fnA 8 (updF (updF G (2*k) (.slice A1 (vNum l k) ca)) (2*k+1) (.slice B nb cb))) 215 (0,0))::(fb,.cells #[.int .i64 0,.int .i64 0] 132 (0,0))::(hb,.cells (fnA 13 (inF F)) 130 (0,0))::(r3,.cells #[.int .i64 0,.int .i64 0] 132 (0,0))::R3):=by
    rw [← qyg 8 G (2*k) _ _ (by omega)];exact hm
   have hm:=(hm.sub (List.sublist_cons_self ..)).sub (List.sublist_cons_self ..);(conv=>whnf);refine zA ?_;(conv=>whnf);refine ⟨k+1,⟨rfl,rfl,rfl,rfl,rfl,trivial⟩,⟨by omega,_,_,hm,fun m h=>?_⟩,by omega⟩
   by_cases e:m=k
   ·subst e;rw [q9 _ _ _ _ (by omega),qgz,qgz];exact hG2
   ·rw [q9 _ _ _ _ (by omega),q9 _ _ _ _ (by omega),q9 _ _ _ _ (by omega),q9 _ _ _ _ (by omega)];exact hG1 m (by omega)
 obtain rfl:k=4:=by omega
 have hL:∀ k,1≤k→k≤3→LvlV l k:=fun k h1 h2=>(hG k (by omega)).1 (by omega)
 obtain ⟨hz,hv⟩:=quv hE;have hn3:=qf1 (hz 3 (by omega));refine NewV.mem hm ?_;intro ab w9 hm;have hm:Mem w w9 ((ab,.cells (fnA 4 (inF fun _=>0)) 128 (0,0))::(lv,.cells (fnA 8 G) 215 (0,0))::(fb,.cells #[.int .i64 0,.int .i64 0] 132 (0,0))::(hb,.cells (fnA 13 (inF F)) 130 (0,0))::(r3,.cells #[.int .i64 0,.int .i64 0] 132 (0,0))::R):=hm;(conv=>whnf);refine qm (fun x:Nat × (Nat→Int) × Option Addr × Nat=>[(3,.pointer (some ⟨r3,0,none⟩)),(4,.pointer (some ⟨hb,0,none⟩)),(6,.pointer (some ⟨lv,0,none⟩)),(10,.slice x.2.2.1 x.1 x.2.2.2),(11,.pointer (some ⟨ab,0,none⟩)),(12,.int .i64 x.1)])
  (fun x w'=>x.1≤vNum l 3∧(∀ m,m<3→x.2.1 m=((tUp l x.1 (3-m):Nat):Int))∧Rw w w' (.slice x.2.2.1 x.1 x.2.2.2) 153 4 x.1 (idsL l x.1) ((ab,.cells (fnA 4 (inF x.2.1)) 128 (0,0))::(lv,.cells (fnA 8 G) 215 (0,0))::(fb,.cells #[.int .i64 0,.int .i64 0] 132 (0,0))::(hb,.cells (fnA 13 (inF F)) 130 (0,0))::(r3,.cells #[.int .i64 0,.int .i64 0] 132 (0,0))::R)) (fun x=>vNum l 3-x.1) (0,(fun _=>0),none,0)
  ⟨rfl,rfl,rfl,rfl,rfl,rfl,trivial⟩ ⟨Nat.zero_le _,fun m _=>by rw [qp2];rfl,Rw.nil hm⟩ ?_
 clear hm;rintro ⟨i,a,B,cc⟩ w10 ρ2 ⟨i1,ha,hR⟩;dsimp only at i1 ha hR ⊢;have hm:=hR.mem;(conv=>whnf);refine zJ 3 ?_;(conv=>whnf);refine LoadV.fi (x:=((vNum l 3:Nat):Int)) hm (i:=3) rfl 3 (by rw [show tsz Tryz.prog 3=1 from by kernel_rfl];rfl) (by omega) (hF.c 3 (by omega)) ?_;clear hm;conv=>whnf
 (repeat' (first|((with_reducible refine zC (fun _=>?_) (fun _=>?_))<;>first|(exfalso;omega)|(conv=>whnf))|(refine zJ 3 ?_;(conv=>whnf))))
 ·refine qzb hR (i:=0) rfl 3 (by rw [show tsz Tryz.prog 3=1 from by kernel_rfl]) (by omega) ?_;clear hR;intro w11 hR;obtain ⟨a',ea⟩:∃ a',a'=updI a 3 (i:Nat):=⟨_,rfl⟩
  have ha':∀ m,m<4→a' m=((tUp l i (3-m):Nat):Int):=fun m h=>by
   by_cases e:m=3
   ·subst e;rw [ea,qbk];rfl
   ·rw [ea,qae _ _ _ _ e];exact ha m (by omega)
  have hR:Rw w w11 (.slice B i cc) 153 4 i (idsL l i) ((ab,.cells (fnA 4 (inF a')) 128 (0,0))::(lv,.cells (fnA 8 G) 215 (0,0))::(fb,.cells #[.int .i64 0,.int .i64 0] 132 (0,0))::(hb,.cells (fnA 13 (inF F)) 130 (0,0))::(r3,.cells #[.int .i64 0,.int .i64 0] 132 (0,0))::R):=by rw [ea];exact hR
  clear ha ea;(conv=>whnf);refine NewV.rw hR ?_;clear hR;intro qb w12 hR;have hR:Rw w w12 (.slice B i cc) 153 4 i (idsL l i) ((qb,.cells (fnA 4 (inF fun _=>0)) 153 (0,0))::(ab,.cells (fnA 4 (inF a')) 128 (0,0))::(lv,.cells (fnA 8 G) 215 (0,0))::(fb,.cells #[.int .i64 0,.int .i64 0] 132 (0,0))::(hb,.cells (fnA 13 (inF F)) 130 (0,0))::(r3,.cells #[.int .i64 0,.int .i64 0] 132 (0,0))::R):=hR;(conv=>whnf);refine qm (fun x:Nat × (Nat→Int)=>[(3,.pointer (some ⟨r3,0,none⟩)),(4,.pointer (some ⟨hb,0,none⟩)),(6,.pointer (some ⟨lv,0,none⟩)),(10,.slice B i cc),(11,.pointer (some ⟨ab,0,none⟩)),(12,.int .i64 i),(13,.pointer (some ⟨qb,0,none⟩)),(14,.int .i64 x.1)])
   (fun x w'=>x.1≤4∧(∀ m,m<x.1→x.2 m=((tNum l i m:Nat):Int))∧Rw w w' (.slice B i cc) 153 4 i (idsL l i) ((qb,.cells (fnA 4 (inF x.2)) 153 (0,0))::(ab,.cells (fnA 4 (inF a')) 128 (0,0))::(lv,.cells (fnA 8 G) 215 (0,0))::(fb,.cells #[.int .i64 0,.int .i64 0] 132 (0,0))::(hb,.cells (fnA 13 (inF F)) 130 (0,0))::(r3,.cells #[.int .i64 0,.int .i64 0] 132 (0,0))::R)) (fun x=>4-x.1) (0,fun _=>0)
   ⟨rfl,rfl,rfl,rfl,rfl,rfl,rfl,rfl,trivial⟩ ⟨by simp,fun m h=>by simp at h,hR⟩ ?_
  clear hR;rintro ⟨k,q⟩ w13 ρ3 ⟨k1,hq,hR⟩;dsimp only at k1 hq hR ⊢;(conv=>whnf);refine zC (fun _=>?_) (fun _=>?_)<;>(conv=>whnf)
  ·obtain ⟨hLk,A1,ca,B1,nb,cb,bs,eG1,eG2,hr1,hr2,hbs⟩:=hG k (by omega);obtain ⟨z1,z2,z3⟩:=qm9 (hv k (by omega));have hnk:=qf1 (hz k (by omega));have hup:=qi3 hL (show i<vNum l 3 by omega) (3-k) (by omega);rw [show 3-(3-k)=k by omega] at hup;have hta:=ha' k (by omega);have htn:tNum l i k=numP (qr l k) (tw l k) (tUp l i (3-k)):=rfl;obtain ⟨y,ey⟩:∃ y,y=tUp l i (3-k):=⟨_,rfl⟩
   rw [← ey] at hup hta htn;have hxy:(unpN (qr l k) (vNum l k) (tw l k))[y]'(by rw [qbg];exact hup)=tNum l i k:=by
    rw [htn,qwi _ _ _ (by omega)];simp [unpN]
   have hx23:tNum l i k<8388608:=by
    rw [← hxy];exact Nat.lt_of_lt_of_le (qu0 (List.getElem_mem ..)) (Nat.pow_le_pow_right (by decide) z2:2 ^ tw l k≤2 ^ 23)
   obtain ⟨x,ex⟩:∃ x,x=tNum l i k:=⟨_,rfl⟩
   rw [← ex] at hxy hx23;rw [eG1] at hr1;have hm:=hR.mem;have hC:SlAt encU 1 w13 A1 (unpN (qr l k) (vNum l k) (tw l k)):=V.RowB.slf (f:=fun x:Nat=>Value.int .u64 (x:Int)) (fun _=>rfl) hr1 hm (fun x hx=>by simp [hx]);clear htn ey;refine DrawV.own rfl (by kernel_rfl) ?_;(conv=>whnf);refine zO ?_;(conv=>whnf);refine zO ?_;(conv=>whnf);apply StepO.still
   ·intro wd hd;(conv=>whnf);refine IdxV.at_ k (by omega) (by omega) ?_;(conv=>whnf);exact PostO.still (Ext.refl _) rfl
   (conv=>whnf);refine zO ?_;(conv=>whnf);apply StepO.still
   ·intro wd hd;(conv=>whnf);refine LoadV.fn (v:=.slice A1 (vNum l k) ca) (Mem.call (Mem.drew hm) hd) (i:=2) rfl (2*k) (by rw [show tsz Tryz.prog 214=2 from by kernel_rfl];dsimp only;omega) (by omega) eG1 ?_;(conv=>whnf);exact PostO.still (Ext.refl _) rfl
   (conv=>whnf);refine zO ?_;(conv=>whnf);apply StepO.still
   ·intro wd hd;(conv=>whnf);refine IdxV.at_ k (by omega) (by omega) ?_;(conv=>whnf);exact PostO.still (Ext.refl _) rfl
   (conv=>whnf);apply StepO.still
   ·intro wd hd;(conv=>whnf);refine LoadV.fi (x:=((y:Nat):Int)) (Mem.call (Mem.drew hm) hd) (i:=1) rfl k (by rw [show tsz Tryz.prog 3=1 from by kernel_rfl];omega) (by omega) hta ?_;(conv=>whnf);exact PostO.still (Ext.refl _) rfl
   (conv=>whnf);obtain ⟨gb,go,hA1,hcl⟩:=hC.at_ (by intro e;have:=congrArg List.length e;rw [qbg] at this;simp at this;omega);subst hA1;apply StepO.still
   ·intro wd hd;(conv=>whnf);refine ⟨⟨gb,go,y,rfl,by omega,by omega,?_⟩⟩;(conv=>whnf);exact PostO.still (Ext.refl _) rfl
   (conv=>whnf);have hcell:w13.cell? ⟨gb,go+y*1,none⟩=some (.int .u64 x):=by
    have:=hcl y _ (List.getElem?_eq_getElem (by rw [qbg];exact hup)) 0 (.int .u64 x) (by rw [hxy];rfl)
    rwa [Nat.add_zero] at this
   apply StepO.still
   ·intro wd hd;(conv=>whnf);refine LoadV.of (Ext.cell (Ext.trans (Ext.refl _).drew hd) hcell) ?_;(conv=>whnf);exact PostO.still (Ext.refl _) rfl
   (conv=>whnf);refine zO ?_ (by intro wd hd;(conv=>whnf);(refine Wit.conv ⟨by omega,by omega⟩ ?_;(conv=>whnf));exact PostO.still (Ext.refl _) rfl);(conv=>whnf);apply StepO.still
   ·intro wd hd;(conv=>whnf);refine IdxV.at_ k (by omega) (by omega) ?_;(conv=>whnf);exact PostO.still (Ext.refl _) rfl
   (conv=>whnf);intro w14 hd14
   (repeat (intro _;(conv=>whnf)))
   (conv=>whnf);refine qzb (hR.drew.call hd14) (i:=0) rfl k (by rw [show tsz Tryz.prog 3=1 from by kernel_rfl];omega) (by omega) ?_;intro w15 hR;have hR:Rw w w15 (.slice B i cc) 153 4 i (idsL l i) ((qb,.cells (fnA 4 (inF (updI q k x))) 153 (0,0))::(ab,.cells (fnA 4 (inF a')) 128 (0,0))::(lv,.cells (fnA 8 G) 215 (0,0))::(fb,.cells #[.int .i64 0,.int .i64 0] 132 (0,0))::(hb,.cells (fnA 13 (inF F)) 130 (0,0))::(r3,.cells #[.int .i64 0,.int .i64 0] 132 (0,0))::R):=hR;(conv=>whnf);refine zA ?_;(conv=>whnf);refine ⟨(k+1,updI q k x),⟨rfl,rfl,rfl,rfl,rfl,rfl,rfl,rfl,trivial⟩,⟨by simp only;omega,fun m h=>?_,hR⟩,by simp only;omega⟩;dsimp only at h ⊢
   by_cases e:m=k
   ·subst e;rw [qbk,ex]
   ·rw [qae _ _ _ _ e];exact hq m (by omega)
  obtain rfl:k=4:=by omega
  have hqv:(fnA 4 (inF q)).toList=idsC l i:=by
   simp only [fnA,idsC];show [Value.int .i64 (q 0),.int .i64 (q 1),.int .i64 (q 2),.int .i64 (q 3)]=_;rw [hq 0 (by omega),hq 1 (by omega),hq 2 (by omega),hq 3 (by omega)]
  refine LoadA.mem hR.mem (i:=0) rfl (by simp [qg];rfl) ?_;rw [hqv];(conv=>whnf);refine NewV.rw hR ?_;clear hR;intro nb w14 hR;(conv=>whnf);refine AppV.rw (m:=1) (news:=idsC l i) q0y idsI idsZ (by kernel_rfl) (by kernel_rfl) (by decide) hR rfl (fun _=>⟨nb,0,rfl,fun k v hv=>?_⟩) (by simp [idsC,Value.oneCell']) (by rw [show ((Tryz.prog.info? 153).get (by kernel_rfl)).bytes=32 from by kernel_rfl];omega) (by omega) ?_
  ·rw [qd (hR.mem.get (List.mem_cons_self ..)),Nat.zero_add];rw [List.getElem?_toArray];exact hv
  clear hR;intro B2 c2 w15 hR;have hR:Rw w w15 (.slice B2 (i+1) c2) 153 4 (i+1) (idsL l (i+1)) ((ab,.cells (fnA 4 (inF a')) 128 (0,0))::(lv,.cells (fnA 8 G) 215 (0,0))::(fb,.cells #[.int .i64 0,.int .i64 0] 132 (0,0))::(hb,.cells (fnA 13 (inF F)) 130 (0,0))::(r3,.cells #[.int .i64 0,.int .i64 0] 132 (0,0))::R):=by
   have e:idsL l (i+1)=idsL l i++idsC l i:=by simp [idsL,List.range_succ]
   rw [e];exact hR.tail.tail
  (conv=>whnf);refine qm (fun x:Nat × (Nat→Int)=>[(3,.pointer (some ⟨r3,0,none⟩)),(4,.pointer (some ⟨hb,0,none⟩)),(6,.pointer (some ⟨lv,0,none⟩)),(10,.slice B2 (i+1) c2),(11,.pointer (some ⟨ab,0,none⟩)),(12,.int .i64 i),(15,.int .i64 x.1),(16,.int .i64 (tUp l i (3-x.1):Nat))])
   (fun x w'=>x.1≤3∧tUp l (i+1) (3-x.1)=tUp l i (3-x.1)+1∧(∀ m,x.1≤m→m<3→x.2 m=((tUp l (i+1) (3-m):Nat):Int))∧(∀ m,m<x.1→x.2 m=((tUp l i (3-m):Nat):Int))∧Rw w w' (.slice B2 (i+1) c2) 153 4 (i+1) (idsL l (i+1)) ((ab,.cells (fnA 4 (inF x.2)) 128 (0,0))::(lv,.cells (fnA 8 G) 215 (0,0))::(fb,.cells #[.int .i64 0,.int .i64 0] 132 (0,0))::(hb,.cells (fnA 13 (inF F)) 130 (0,0))::(r3,.cells #[.int .i64 0,.int .i64 0] 132 (0,0))::R)) (fun x=>x.1) (3,a')
   ⟨rfl,rfl,rfl,rfl,rfl,rfl,rfl,rfl,trivial⟩ ⟨Nat.le_refl _,rfl,fun m h1 h2=>by omega,fun m h=>ha' m (by omega),hR⟩ ?_
  clear hR ha' hq hqv;rintro ⟨k,a⟩ w16 ρ4 ⟨k1,hu,h1,h2,hR⟩;dsimp only at k1 hu h1 h2 hR ⊢;have hi3:i<vNum l 3:=by omega
  (conv=>whnf)
  (repeat' (first|(refine zA ?_;(conv=>whnf))|((with_reducible refine zT ?_);(conv=>whnf))|((with_reducible refine zU ?_);(conv=>whnf))|((with_reducible refine zC (fun _=>?_) (fun _=>?_))<;>first|(exfalso;omega)|(conv=>whnf))|((with_reducible refine zX ?_);(conv=>whnf))))
  ·obtain ⟨hLk,A1,ca,B1,nb1,cb,bs,eG1,eG2,hr1,hr2,hbs⟩:=hG k (by omega);obtain ⟨rfl,rfl⟩:=hbs (by omega);have hup:=qi3 hL hi3 (3-k) (by omega);rw [show 3-(3-k)=k by omega] at hup;have hLk:=hL k (by omega) k1;have hup1:=qzk hL hi3 (show 3-k<3 by omega) hu;have hup0:=qw3 hL hi3 (show 3-k<3 by omega) hu;rw [show 3-(3-k)=k by omega] at hup1 hup0;have hsame:∀ m,m<k→tUp l (i+1) (3-k+1)=tUp l i (3-k+1)→tUp l (i+1) (3-m)=tUp l i (3-m):=fun m hm3 h=>qw4 h (by omega)
   have hk1:a (k-1)=((tUp l i (3-k+1):Nat):Int):=by rw [h2 (k-1) (by omega),show 3-(k-1)=3-k+1 by omega]
   obtain ⟨y,ey⟩:∃ y,y=tUp l i (3-k):=⟨_,rfl⟩
   rw [← ey] at hup hup1 hup0;have hyb:y<(bitL (qk l k) (vNum l k)).length:=by simp [bitL];exact hup
   obtain ⟨b,hb⟩:∃ b,b=(bitL (qk l k) (vNum l k))[y]:=⟨_,rfl⟩
   have hbv:b=decide (bitN ((qk l k).drop 8) y=1):=by
    rw [hb];simp only [bitL,List.getElem_map,List.getElem_range];rw [vD,qe9];rw [hLk.n];unfold upN;omega
   rw [eG2] at hr2;have hB:SlAt encO 1 w16 B1 (bitL (qk l k) (vNum l k)):=V.RowB.slf (f:=Value.bool) (fun _=>rfl) hr2 hR.mem (fun x hx=>by simp [hx]);refine LoadV.fn (v:=.slice B1 (vNum l k) cb) hR.mem (i:=1) rfl (2*k+1) (by rw [show tsz Tryz.prog 214=2 from by kernel_rfl];dsimp only;omega) (by omega) eG2 ?_;(conv=>whnf);rw [← ey];(iterate 2 (refine zT ?_;(conv=>whnf)));refine ElemV.sl hB (by simp [bitL]) y rfl hup ?_;intro eb eo hcell;rw [← hb] at hcell;(conv=>whnf);refine zT ?_;(conv=>whnf);refine LoadV.cell0 hcell ?_;(conv=>whnf);refine zT ?_;(conv=>whnf);cases b
   ·have hbn:=of_decide_eq_false hbv.symm;have hq0:=hup0 hbn;(conv=>whnf);refine zU ?_;(conv=>whnf);refine zA ?_;(conv=>whnf);refine ⟨(i+1,a,B2,c2),⟨rfl,rfl,rfl,rfl,rfl,rfl,trivial⟩,⟨by simp only;omega,fun m hm3=>?_,hR⟩,by simp only;omega⟩;dsimp only
    rcases Nat.lt_or_ge m k with hmk|hmk
    ·rw [h2 m hmk,hsame m hmk hq0]
    ·exact h1 m hmk hm3
   ·have hbn:=of_decide_eq_true hbv.symm;have hq1:=hup1 hbn;obtain ⟨z,ez⟩:∃ z,z=tUp l i (3-k+1):=⟨_,rfl⟩
    have hzb:z<vNum l (k-1):=by
     have:=qi3 hL hi3 (3-k+1) (by omega);rw [ez]
     rwa [show 3-(3-k+1)=k-1 by omega] at this
    have hnk1:=qf1 (hz (k-1) (by omega));rw [← ez] at hk1 hq1;clear hcell hb hup1 hup0 hsame;(conv=>whnf);refine zT ?_;(conv=>whnf);refine zA ?_;(conv=>whnf);refine IdxV.at_ (k-1) (by omega) (by omega) ?_;(conv=>whnf);refine LoadV.fi (x:=((z:Nat):Int)) hR.mem (i:=0) rfl (k-1) (by rw [show tsz Tryz.prog 3=1 from by kernel_rfl];omega) (by omega) hk1 ?_;(conv=>whnf);refine zA ?_;(conv=>whnf);refine IdxV.at_ (k-1) (by omega) (by omega) ?_;(conv=>whnf);refine LoadV.fi (x:=((z:Nat):Int)) hR.mem (i:=0) rfl (k-1) (by rw [show tsz Tryz.prog 3=1 from by kernel_rfl];omega) (by omega) hk1 ?_;(conv=>whnf);refine zA ?_;(conv=>whnf);refine IdxV.at_ (k-1) (by omega) (by omega) ?_;(conv=>whnf);refine qzb (x:=((z:Nat):Int)+1) hR (i:=0) rfl (k-1) (by rw [show tsz Tryz.prog 3=1 from by kernel_rfl];omega) (by omega) ?_;clear hR;intro w17 hR;have hR:Rw w w17 (.slice B2 (i+1) c2) 153 4 (i+1) (idsL l (i+1)) ((ab,.cells (fnA 4 (inF (updI a (k-1) (((z:Nat):Int)+1)))) 128 (0,0))::(lv,.cells (fnA 8 G) 215 (0,0))::(fb,.cells #[.int .i64 0,.int .i64 0] 132 (0,0))::(hb,.cells (fnA 13 (inF F)) 130 (0,0))::(r3,.cells #[.int .i64 0,.int .i64 0] 132 (0,0))::R):=hR;(conv=>whnf);refine zA ?_;(conv=>whnf);have e3:3-(k-1)=3-k+1:=by omega
    refine ⟨(k-1,updI a (k-1) (((z:Nat):Int)+1)),⟨rfl,rfl,rfl,rfl,rfl,rfl,?_,?_,trivial⟩,⟨by simp only;omega,?_,fun m hm1 hm3=>?_,fun m hm1=>?_,hR⟩,by simp only;omega⟩
    ·exact congrArg (Value.int .i64) (by simp only;omega)
    ·exact congrArg (fun n:Nat=>Value.int .i64 (n:Int)) (by simp only;rw [e3];exact ez)
    ·simp only;rw [e3,hq1,ez]
    ·dsimp only at hm1 ⊢
     by_cases e:m=k-1
     ·subst e;rw [qbk,e3,hq1];omega
     ·rw [qae _ _ _ _ e];exact h1 m (by omega) hm3
    ·dsimp only at hm1 ⊢;rw [qae _ _ _ _ (by omega)];exact h2 m (by omega)
  ·obtain rfl:k=0:=by omega
   refine ⟨(i+1,a,B2,c2),⟨rfl,rfl,rfl,rfl,rfl,rfl,trivial⟩,⟨by simp only;omega,fun m hm3=>?_,hR⟩,by simp only;omega⟩;exact h1 m (Nat.zero_le _) hm3
 ·obtain rfl:i=vNum l 3:=by omega
  refine StoreA.same (hR.mem.get (L:=_) (by simp):w10.heap[r3]?=some (.cells #[.int .i64 0,.int .i64 0] 132 (0,0))) rfl (by decide) ?_;intro w11 he11;(conv=>whnf);refine qa (R:=fun v w'=>TopR l w.heap.size v w'∧Ext w w') ?_;(conv=>whnf);refine LoadA.mem (hR.mem.call he11) (i:=4) rfl rfl ?_;(conv=>whnf);exact ⟨.inr ⟨hE,hL,B,cc,rfl,qbz hR.own he11⟩,hR.mem.ext.trans he11⟩
open Go.RowKit V
set_option maxRecDepth 100000
theorem qo6 {l:List UInt8} {k:Nat} (h:∀ j,j<k→(dhF l j).2=0) (hk:k<2) (he:(dhF l k).2≠0):dE l=dhF l k:=by
 have:=qan (f:=dhF l) h hk he;rw [dE,this,if_pos he]
theorem qb4 {l:List UInt8} {k most:Nat} (h:(numE l k most).2=0):vNum l k≤most:=by
 unfold numE at h
 split at h
 ·rename_i g;exact absurd h g
 ·split at h
  ·cases h
  ·omega
theorem qvs {l:List UInt8} (h:(dE l).2=0):dN l≤4194304∧qdw l≤67108864∧dEnd l=l.length:=by
 unfold dE at h
 split at h
 ·rename_i h0;exact absurd h h0
 rename_i h0
 have hh:=qcd (f:=dhF l) (n:=2) (by omega);have h1:=hh 0 (by omega);have h2:=hh 1 (by omega)
 split at h
 ·cases h
 rename_i g1
 split at h
 ·cases h
 rename_i g2
 refine ⟨?_,?_,by omega⟩
 ·exact qb4 h1
 ·exact qb4 h2
def HdDR (l:List UInt8) (r:Value):Prop:=
 ((dE l).2≠0∧r=.tuple #[.agg #[.int .i64 0,.int .i64 0,.int .i64 0,.int .i64 0],fltV (dE l).1 (dE l).2])∨
 ((dE l).2=0∧r=.tuple #[.agg #[.int .i64 (dN l:Nat),.int .i64 (qdw l:Nat),.int .i64 (qaj l:Nat),.int .i64 (qf l:Nat)],fltV 0 0])
set_option maxHeartbeats 2000000 in
theorem qlx (l:List UInt8) (A:Option Addr) (c:Nat) (w:World) (hS:SlAt encB 1 w A l) (hc:l.length≤c) (hl:l.length≤140737488355328) :
  Gv Tryz.prog 170 [.slice A l.length c] w fun r w'=>HdDR l r∧Ext w w':=by
 have hle1:=qbs l 1;have hle2:=qbs l 2;have hlt0:=qe7 l 0;have hlt1:=qe7 l 1;refine zE Tryz.func170 Tryz.ntmps170 ?_;(conv=>whnf);refine NewV.mem (Mem.nil w) ?_;intro r2 w1 hm;(conv=>whnf);refine NewV.mem hm ?_;intro r3 w2 hm;(conv=>whnf);refine CallV.of (qa9 l A _ _ w2 (hS.ext hm.ext) rfl hl) ?_;rintro r w3 ⟨rfl,rfl⟩;obtain ⟨q,eq⟩:∃ q,q=(numL l).2.2:=⟨_,rfl⟩
 obtain ⟨s,es⟩:∃ s,s=(numL l).2.1:=⟨_,rfl⟩
 have eva:vAt l 1=s:=by rw [es,vAt,vAt,Nat.zero_add];rfl
 have evn:(numL l).1=vNum l 0:=rfl;have eq0:(numL (l.drop (vAt l 0))).2.2=q:=by rw [eq];rfl
 rw [numV,evn,← eq,← es];conv=>whnf
 (repeat' ((with_reducible refine zC (fun _=>?_) (fun _=>?_))<;>first|(exfalso;omega)|(conv=>whnf)))
 ·have hf:dhF l 0=(0,q):=by rw [dhF,qde (by omega),eq0];rfl
  have hE:dE l=(0,q):=by rw [qo6 (k:=0) (fun j h=>by omega) (by omega) (by rw [hf];show q≠0;omega),hf]
  refine zS hm 1 ?_;intro wa hm;(conv=>whnf);refine zS hm 0 ?_;intro wb hm;(conv=>whnf);refine qa (R:=fun r w'=>HdDR l r∧Ext w w') ?_;(conv=>whnf);refine zL hm 1 ?_;(conv=>whnf);refine zL hm 0 ?_;(conv=>whnf);exact ⟨.inl ⟨by rw [hE];show q≠0;omega,by rw [hE];rfl⟩,hm.ext⟩
 ·have hf:dhF l 0=(0,2):=by rw [dhF,qcj (by omega) (by rw [if_pos rfl];omega)];rfl
  have hE:dE l=(0,2):=by rw [qo6 (k:=0) (fun j h=>by omega) (by omega) (by rw [hf];simp),hf]
  refine zS hm 1 ?_;intro wa hm;(conv=>whnf);refine zS hm 0 ?_;intro wb hm;(conv=>whnf);refine qa (R:=fun r w'=>HdDR l r∧Ext w w') ?_;(conv=>whnf);refine zL hm 1 ?_;(conv=>whnf);refine zL hm 0 ?_;(conv=>whnf);exact ⟨.inl ⟨by rw [hE];simp,by rw [hE];rfl⟩,hm.ext⟩
 have hf0:(dhF l 0).2=0:=by rw [dhF,qbu (by omega) (by rw [if_pos rfl];omega)]
 refine SliceV.bs (hS.ext hm.ext) rfl s l.length c rfl rfl rfl (by omega) (Nat.le_refl _) hc (Nat.le_refl _) (fun h=>by cases h) ?_;intro A' hA';rw [List.take_of_length_le (by rw [List.length_drop];exact Nat.le_refl _)] at hA';(conv=>whnf);refine CallV.of (qa9 (l.drop s) A' _ _ _ hA' (by rw [List.length_drop]) (by rw [List.length_drop];omega)) ?_;rintro r w4 ⟨rfl,rfl⟩;obtain ⟨q2,eq2⟩:∃ q2,q2=(numL (l.drop s)).2.2:=⟨_,rfl⟩
 obtain ⟨s2,es2⟩:∃ s2,s2=(numL (l.drop s)).2.1:=⟨_,rfl⟩
 have evn2:(numL (l.drop s)).1=vNum l 1:=by rw [vNum,eva]
 have eva2:vAt l 2=s+s2:=by rw [es2,vAt,eva]
 have eq20:(numL (l.drop (vAt l 1))).2.2=q2:=by rw [eq2,eva]
 rw [numV,evn2,← eq2,← es2];conv=>whnf
 (repeat' (first|(refine zA ?_;(conv=>whnf))|((with_reducible refine zC (fun _=>?_) (fun _=>?_))<;>first|(exfalso;omega)|(conv=>whnf))|(refine Wit.conv ⟨by omega,by omega⟩ ?_;(conv=>whnf))))
 ·have hf:dhF l 1=(s,q2):=by rw [dhF,qde (by omega),eq20,eva]
  have hE:dE l=(s,q2):=by rw [qo6 (k:=1) (fun j h=>by obtain rfl:j=0:=(by omega);exact hf0) (by omega) (by rw [hf];show q2≠0;omega),hf]
  refine zS hm 1 ?_;intro wa hm;(conv=>whnf);refine zS hm 0 ?_;intro wb hm;(conv=>whnf);refine qa (R:=fun r w'=>HdDR l r∧Ext w w') ?_;(conv=>whnf);refine zL hm 1 ?_;(conv=>whnf);refine zL hm 0 ?_;(conv=>whnf);exact ⟨.inl ⟨by rw [hE];show q2≠0;omega,by rw [hE];rfl⟩,hm.ext⟩
 ·have hf:dhF l 1=(s,2):=by rw [dhF,qcj (by omega) (by rw [if_neg (by omega)];omega),eva]
  have hE:dE l=(s,2):=by rw [qo6 (k:=1) (fun j h=>by obtain rfl:j=0:=(by omega);exact hf0) (by omega) (by rw [hf];simp),hf]
  refine zS hm 1 ?_;intro wa hm;(conv=>whnf);refine zS hm 0 ?_;intro wb hm;(conv=>whnf);refine qa (R:=fun r w'=>HdDR l r∧Ext w w') ?_;(conv=>whnf);refine zL hm 1 ?_;(conv=>whnf);refine zL hm 0 ?_;(conv=>whnf);exact ⟨.inl ⟨by rw [hE];simp,by rw [hE];rfl⟩,hm.ext⟩
 have hf1:(dhF l 1).2=0:=by rw [dhF,qbu (by omega) (by rw [if_neg (by omega)];omega)]
 have hno:¬ (errF (dhF l) 2).2≠0:=by
  have:=qap (f:=dhF l) (n:=2) (fun k hk=>by rcases (show k=0∨k=1 by omega) with rfl|rfl;exact hf0;exact hf1);omega
 have edN:dN l=vNum l 0:=rfl;have edS:qdw l=vNum l 1:=rfl;have ed3:qaj l=s+s2:=eva2;obtain ⟨U,eU⟩:∃ U,U=upN (dN l) 16:=⟨_,rfl⟩
 have eU2:U=(vNum l 0+15)/16:=by rw [eU,upN,edN];rfl
 have hW:qcn (vNum l 1)≤64:=qdl 64 _ (by simpa using hlt1) (by decide);obtain ⟨f,ef⟩:∃ f,f=U*qcn (vNum l 1):=⟨_,rfl⟩
 have efi:(U:Int)*(qcn (vNum l 1):Int)=(f:Int):=by rw [ef,Int.natCast_mul]
 have hfb:f≤262144*64:=by rw [ef];exact Nat.mul_le_mul (by omega) hW
 have ed4:qf l=s+s2+(f+7)/8:=by rw [qf,ed3,← eU,ef];rfl
 refine NewV.mem hm ?_;intro t9 w5 hm;(conv=>whnf);refine zS hm 0 ?_;intro w6 hm;have hm:Mem w w6 [(t9,.cells #[.int .i64 (vNum l 0:Nat),.int .i64 (vNum l 1:Nat),.int .i64 (s+s2:Nat),.int .i64 0] 197 (0,0)),(r3,.cells #[.int .i64 0,.int .i64 0] 198 (0,0)),(r2,.cells #[.int .i64 0,.int .i64 0,.int .i64 0,.int .i64 0] 197 (0,0))]:=hm;(conv=>whnf);refine LoadV.mem (i:=0) (by assumption) rfl rfl ?_;(conv=>whnf);(iterate 2 (refine zA ?_;(conv=>whnf)));refine zB ?_;(conv=>whnf);have eUi:((vNum l 0:Nat)+16-1:Int)/16=(U:Int):=by omega
 rw [eUi];refine DrawV.own rfl (by kernel_rfl) ?_;(conv=>whnf);refine zO ?_;(conv=>whnf);apply StepO.still
 ·intro wd hd;(conv=>whnf);refine LoadV.mem (Mem.call (Mem.drew hm) hd) (i:=0) rfl rfl ?_;(conv=>whnf);exact PostO.still (Ext.refl _) rfl
 (conv=>whnf);refine zO ?_;(conv=>whnf);refine zO ?_;(conv=>whnf);apply StepO.still
 ·intro wd hd;(conv=>whnf);refine CallV.of (qgv (vNum l 1) wd hlt1) ?_;rintro v w9 ⟨rfl,rfl⟩;exact PostO.still (Ext.refl _) rfl
 (conv=>whnf);apply StepO.still
 ·intro wd hd;(conv=>whnf);rw [efi];refine zA ?_;(conv=>whnf);exact PostO.still (Ext.refl _) rfl
 (conv=>whnf);refine zO ?_ (by intro wd hd;(conv=>whnf);(refine zA ?_;(conv=>whnf));exact PostO.still (Ext.refl _) rfl);(conv=>whnf);refine zO ?_ (by intro wd hd;(conv=>whnf);(refine zB ?_;(conv=>whnf));exact PostO.still (Ext.refl _) rfl);(conv=>whnf);refine zO ?_ (by intro wd hd;(conv=>whnf);(refine zA ?_;(conv=>whnf));exact PostO.still (Ext.refl _) rfl);(conv=>whnf);refine zO ?_;(conv=>whnf);intro w7 hd7
 (repeat (intro _;(conv=>whnf)))
 (conv=>whnf);refine StoreV.mem (hm.drew.call hd7) (i:=0) rfl (show 3<4 by decide) rfl ?_;intro w8 hm;have e4:(((s+s2:Nat):Int)+((f:Int)+7)/8)=((qf l:Nat):Int):=by omega
 rw [e4] at hm;have hm:Mem w w8 [(t9,.cells #[.int .i64 (vNum l 0:Nat),.int .i64 (vNum l 1:Nat),.int .i64 (s+s2:Nat),.int .i64 (qf l:Nat)] 197 (0,0)),(r3,.cells #[.int .i64 0,.int .i64 0] 198 (0,0)),(r2,.cells #[.int .i64 0,.int .i64 0,.int .i64 0,.int .i64 0] 197 (0,0))]:=hm;have edE:dEnd l=qf l+vNum l 1:=rfl;obtain ⟨d4,ed⟩:∃ d4,d4=qf l:=⟨_,rfl⟩
 rw [← ed] at hm edE ed4;conv=>whnf
 (repeat' (first|(refine zA ?_;(conv=>whnf))|((with_reducible refine zC (fun _=>?_) (fun _=>?_))<;>first|(exfalso;omega)|(conv=>whnf))|(refine LoadV.mem (i:=0) (by assumption) rfl rfl ?_;(conv=>whnf))))
 ·have hE:dE l=(l.length,10):=by rw [dE,if_neg hno,if_pos (by omega)]
  refine zS hm 2 ?_;intro wa hm;(conv=>whnf);refine zS hm 1 ?_;intro wb hm;(conv=>whnf);refine qa (R:=fun r w'=>HdDR l r∧Ext w w') ?_;(conv=>whnf);refine zL hm 2 ?_;(conv=>whnf);refine zL hm 1 ?_;(conv=>whnf);exact ⟨.inl ⟨by rw [hE];simp,by rw [hE];rfl⟩,hm.ext⟩
 ·have hE:dE l=(dEnd l,13):=by rw [dE,if_neg hno,if_neg (by omega),if_pos (by omega)]
  refine DrawV.inv (fun S w'=>Mem w w' [(t9,.cells #[.int .i64 (vNum l 0:Nat),.int .i64 (vNum l 1:Nat),.int .i64 (s+s2:Nat),.int .i64 (d4:Nat)] 197 (0,0)),(r3,.cells (bif S 8 then #[.int .i64 (dEnd l:Nat),.int .i64 13] else #[.int .i64 0,.int .i64 0]) 198 (0,0)),(r2,.cells #[.int .i64 0,.int .i64 0,.int .i64 0,.int .i64 0] 197 (0,0))]) rfl (by kernel_rfl) hm.drew ?_;clear hm;(conv=>whnf);refine zI ?_;(conv=>whnf);refine zI ?_;(conv=>whnf);refine StepI.of (.int .i64 (d4:Nat)) (fun S wd hk hp hI=>?_) ?_
  ·(conv=>whnf);refine zR hI 0 ?_;(conv=>whnf);exact ⟨rfl,hI⟩
  (conv=>whnf);refine zI ?_;(conv=>whnf);refine StepI.of (.int .i64 (vNum l 1:Nat)) (fun S wd hk hp hI=>?_) ?_
  ·(conv=>whnf);refine zR hI 0 ?_;(conv=>whnf);exact ⟨rfl,hI⟩
  (conv=>whnf);refine zI ?_ (by intro S wd hk hp hI;(conv=>whnf);(refine zA ?_;(conv=>whnf));exact ⟨rfl,hI⟩);(conv=>whnf);refine zI ?_;(conv=>whnf);refine StepI.of undef (fun S wd hk hp hI=>?_) ?_
  ·(conv=>whnf);refine zS hI 2 ?_;intro wx hmx;(conv=>whnf);exact ⟨rfl,hmx⟩
  (conv=>whnf);refine StepI.of undef (fun S wd hk hp hI=>?_) ?_
  ·dsimp only at hI;rw [hk] at hI;(conv=>whnf);have e5:((d4:Nat):Int)+((vNum l 1:Nat):Int)=((dEnd l:Nat):Int):=by omega
   rw [e5];refine zS hI 1 ?_;intro wx hmx;(conv=>whnf);exact ⟨rfl,hmx⟩
  (conv=>whnf);intro wz hm;have hm:Mem w wz [(t9,.cells #[.int .i64 (vNum l 0:Nat),.int .i64 (vNum l 1:Nat),.int .i64 (s+s2:Nat),.int .i64 (d4:Nat)] 197 (0,0)),(r3,.cells #[.int .i64 (dEnd l:Nat),.int .i64 13] 198 (0,0)),(r2,.cells #[.int .i64 0,.int .i64 0,.int .i64 0,.int .i64 0] 197 (0,0))]:=hm;(conv=>whnf);refine qa (R:=fun r w'=>HdDR l r∧Ext w w') ?_;(conv=>whnf);refine zL hm 2 ?_;(conv=>whnf);refine zL hm 1 ?_;(conv=>whnf);exact ⟨.inl ⟨by rw [hE];simp,by rw [hE];rfl⟩,hm.ext⟩
 have hE:dE l=(0,0):=by rw [dE,if_neg hno,if_neg (by omega),if_neg (by omega)]
 refine zL hm 0 ?_;(conv=>whnf);refine zS hm 2 ?_;intro wa hm;(conv=>whnf);refine zS hm 1 ?_;intro wb hm;(conv=>whnf);refine qa (R:=fun r w'=>HdDR l r∧Ext w w') ?_;(conv=>whnf);refine zL hm 2 ?_;(conv=>whnf);refine zL hm 1 ?_;(conv=>whnf);exact ⟨.inr ⟨by rw [hE],by rw [ed3,← ed];rfl⟩,hm.ext⟩
theorem qnf (l:List UInt8) (A:Option Addr) (c:Nat) (w:World) (hS:SlAt encB 1 w A l) (hc:l.length≤c) (hl:l.length≤140737488355328) :
  Gv Tryz.prog 108 [.slice A l.length c] w fun r w'=>HdDR l r∧Ext w w':=by
 refine zE Tryz.func108 Tryz.ntmps108 ?_;(conv=>whnf);refine NewV.mem (Mem.nil w) ?_;intro r2 w1 hm;(conv=>whnf);refine NewV.mem hm ?_;intro r3 w2 hm;(conv=>whnf);refine CallV.of (qlx l A c w2 (hS.ext hm.ext) hc hl) ?_;rintro r w3 ⟨hh,he3⟩;have hm:=hm.call he3
 rcases hh with ⟨h1,rfl⟩|⟨h1,rfl⟩
 all_goals
  (conv=>whnf);refine zS hm 1 ?_;intro wa hm;(conv=>whnf);refine zS hm 0 ?_;intro wb hm;(conv=>whnf);refine qa (R:=fun r w'=>HdDR l r∧Ext w w') ?_;(conv=>whnf);refine zL hm 1 ?_;(conv=>whnf);refine zL hm 0 ?_;conv=>whnf
 ·exact ⟨.inl ⟨h1,rfl⟩,hm.ext⟩
 ·exact ⟨.inr ⟨h1,rfl⟩,hm.ext⟩
theorem qg9 (xs:List Nat) (A:Option Addr) (n c i:Nat) (w:World) (hS:SlAt encU 1 w A xs) (hn:xs.length=n) :
  Gv Tryz.prog 177 [.slice A n c,.int .i64 i] w fun r w'=>r=.int .u64 (xs.getD i 0)∧w'=w:=by
 refine zE Tryz.func177 Tryz.ntmps177 ?_;(conv=>whnf);refine zC (fun _=>?_) (fun _=>?_)<;>(conv=>whnf)
 ·rw [List.getD_eq_getElem?_getD,List.getElem?_eq_none (by omega)];exact ⟨rfl,rfl⟩
 ·refine ElemV.sl hS hn i rfl (by omega) ?_;intro b off hc;(conv=>whnf);refine LoadV.cell0 hc ?_;(conv=>whnf);rw [List.getD_eq_getElem?_getD,List.getElem?_eq_getElem (by omega)];exact ⟨rfl,rfl⟩
theorem qqh (a b:ByteArray) (w:World) (ha:a.size≤4194304) :
  Gv Tryz.prog 234 [.string a,.string b] w fun r w'=>(∃ k:Nat,r=.int .i64 k)∧Ext w w':=by
 refine zE Tryz.func234 Tryz.ntmps234 ?_;(conv=>whnf);refine qm (fun i:Nat=>[(0,.string a),(1,.string b),(5,.int .i64 i)]) (fun i w'=>i≤a.size∧Ext w w') (fun i=>a.size-i) 0 ⟨rfl,rfl,rfl,trivial⟩ ⟨Nat.zero_le _,Ext.refl _⟩ ?_;rintro i w1 ρ' ⟨i1,he⟩;(conv=>whnf);refine DrawV.quiet (by kernel_rfl) (by kernel_rfl) ?_;conv=>whnf
 (repeat' (first|(refine zA ?_;(conv=>whnf))|((with_reducible refine zT ?_);(conv=>whnf))|((with_reducible refine zU ?_);(conv=>whnf))|((with_reducible refine zC (fun _=>?_) (fun _=>?_))<;>first|(exfalso;omega)|(conv=>whnf))|((with_reducible refine zX ?_);(conv=>whnf))|((with_reducible refine zW ?_);(conv=>whnf))))
 all_goals first
  | exact ⟨i+1,⟨rfl,rfl,rfl,trivial⟩,⟨by omega,he.drew⟩,by omega⟩
  | exact ⟨⟨i,rfl⟩,he.drew⟩
theorem qs1 (l:List UInt8) (A:Option Addr) (c p:Nat) (a b:ByteArray) (w:World) (hS:SlAt encB 1 w A l) (hc:l.length≤c) (hl:l.length≤140737488355328) (hp:p≤l.length) (hx:(numL (l.drop p)).1≤4194304) (ha:a.size≤4194304) :
  Gv Tryz.prog 179 [.slice A l.length c,.int .i64 p,.string a,.string b] w fun r w'=>(∃ z:Bool,r=.bool z)∧Ext w w':=by
 refine zE Tryz.func179 Tryz.ntmps179 ?_;(conv=>whnf);refine SliceV.bs hS rfl p l.length c rfl rfl rfl (by omega) (Nat.le_refl _) hc (Nat.le_refl _) (fun h=>by cases h) ?_;intro A' hA';rw [List.take_of_length_le (by rw [List.length_drop];exact Nat.le_refl _)] at hA';(conv=>whnf);refine CallV.of (qa9 (l.drop p) A' _ _ _ hA' (by rw [List.length_drop]) (by rw [List.length_drop];omega)) ?_;rintro r w1 ⟨rfl,rfl⟩;obtain ⟨x,ex⟩:∃ x,x=(numL (l.drop p)).1:=⟨_,rfl⟩
 rw [numV,← ex];rw [← ex] at hx;(conv=>whnf);refine Wit.conv ⟨by omega,by omega⟩ ?_;(conv=>whnf);refine CallV.of (qqh a b w1 ha) ?_;rintro r w2 ⟨⟨k,rfl⟩,he⟩;(conv=>whnf);exact ⟨⟨_,rfl⟩,he⟩
open Go.RowKit V
set_option maxRecDepth 100000
def entV (x:List UInt8 × Nat × Nat):Value:=.tuple #[.string ⟨x.1.toArray⟩,.int .i64 x.2.1,.int .i64 x.2.2]
theorem qsx {m ahead:List UInt8} {first:Bool} {s y:Nat × Nat × Nat} (es:s=if first then (0,0,0) else numL m) (ey:y=numL (m.drop s.2.1)) (e2:s.2.2=0) (he2:y.2.2=0) :
  entG m first ahead=if ahead.length<s.1 then ([],0,161) else if 262144<y.1∨262144<s.1+y.1 then ([],0,2) else if m.length-s.2.1-y.2.1<y.1 then ([],0,10) else (ahead.take s.1++(m.drop (s.2.1+y.2.1)).take y.1,s.2.1+y.2.1+y.1,0):=by
 unfold entG;rw [← es];dsimp only;rw [if_neg (by omega),← ey,if_neg (by omega)]
theorem qsz (b:Nat) (m:List UInt8) (p:Nat) (first:Bool) (last:ByteArray) (w:World) (h:DictAt w b m) (hp:p≤4294967296) (hlast:last.size≤262144) :
  Gv Tryz.prog 290 [.pointer (some ⟨b,0,none⟩),.int .i64 p,.bool first,.string last] w fun r w'=>r=entV (qcc (qj m) p first last.data.toList)∧Ext w w':=by
 obtain ⟨⟨P,cp,E,ce,h1,h2,h3,h4⟩,h5,h6,h7,h8⟩:=h;obtain ⟨D,eD⟩:∃ D,D=qj m:=⟨_,rfl⟩
 rw [← eD] at h1 h3 h4 h8 ⊢;refine zE Tryz.func290 Tryz.ntmps290 ?_;(conv=>whnf);refine zN (fun _=>?_);(conv=>whnf);(iterate 4 (refine zU ?_;(conv=>whnf)));refine LoadV.own h1 rfl ?_;(conv=>whnf);(iterate 3 (refine zU ?_;(conv=>whnf)));refine zC (fun _=>?_) (fun _=>?_)<;>(conv=>whnf)
 ·rw [qcc,if_pos (by omega)];exact ⟨rfl,Ext.refl _⟩
 refine LoadV.own h1 rfl ?_;(conv=>whnf);refine SliceV.bs h3 rfl p D.length ce rfl rfl rfl (by omega) (Nat.le_refl _) h4 (Nat.le_refl _) (fun h=>by cases h) ?_;intro A' hA';rw [List.take_of_length_le (by simp)] at hA';(conv=>whnf);obtain ⟨B,eB⟩:∃ B,B=D.drop p:=⟨_,rfl⟩
 have hBl:B.length=D.length-p:=by rw [eB,List.length_drop]
 rw [← eB] at hA';have hvB:∀ w',Ext w w'→BS w' (.slice A' (D.length-p) (ce-p)) B:=fun w' he=>⟨A',ce-p,by rw [hBl],by rw [hBl];omega,hA'.ext he⟩
 refine CallV.of (qdg _ B w (hvB w (Ext.refl _))) ?_;rintro v w1 ⟨cb,rfl,hcb,hco,he1⟩;have hm:Mem w w1 [(cb,curO 251 (.slice A' (D.length-p) (ce-p)) 0 0)]:=(Mem.nil w).fresh he1 hcb hco;(conv=>whnf);obtain ⟨s,es⟩:∃ s:Nat × Nat × Nat,s=if first then (0,0,0) else numL B:=⟨_,rfl⟩
 have hsb:s.1<18446744073709551616∧s.2.1≤B.length:=by
  have:=qah B;rw [es];split
  ·exact ⟨by decide,Nat.zero_le _⟩
  ·exact ⟨this.1,this.2.1⟩
 cases first
 ·refine zP ?_;refine zU ?_;(conv=>whnf);refine CallV.of (qch cb _ 0 0 B w1 (hm.get (List.mem_cons_self ..)) (hvB w1 hm.ext) (Nat.zero_le _) (by omega)) ?_;rintro r w2 ⟨rfl,hu⟩
  by_cases he:(numL (B.drop 0)).2.2=0
  ·obtain ⟨q1,q2,q3⟩:=qoi he;rw [q2,q3,Nat.zero_add] at hu;rw [q1];have es:s=numL B:=es;have hm:Mem w w2 [(cb,curO 251 (.slice A' (D.length-p) (ce-p)) s.2.1 0)]:=by rw [es];exact hm.upd (i:=0) rfl hu
   have e1:(numL (B.drop 0)).1=s.1:=by rw [es];rfl
   have e2:s.2.2=0:=by rw [es];exact he
   rw [e1];clear q1 q2 q3 hu e1;(conv=>whnf);refine CallV.of (qbp cb _ _ 0 w2 (hm.get (List.mem_cons_self ..))) ?_;rintro r w3 ⟨rfl,rfl⟩;(conv=>whnf);refine zN (fun _=>?_);(conv=>whnf);refine CallV.of (qch cb _ s.2.1 0 B _ (hm.get (List.mem_cons_self ..)) (hvB _ hm.ext) hsb.2 (by omega)) ?_;rintro r w4 ⟨rfl,hu⟩;have hx1:=qah (B.drop s.2.1);rw [List.length_drop] at hx1
   by_cases he2:(numL (B.drop s.2.1)).2.2=0
   ·obtain ⟨q1,q2,q3⟩:=qoi he2;rw [q2,q3] at hu;rw [q1];clear q1 q2 q3;obtain ⟨y,ey⟩:∃ y,y=numL (B.drop s.2.1):=⟨_,rfl⟩
    rw [← ey] at he2 hu hx1 ⊢;have hE:=qsx (ahead:=last.data.toList) (first:=false) es ey e2 he2;have hll:last.data.toList.length=last.size:=rfl;have hm:Mem w w4 [(cb,curO 251 (.slice A' (D.length-p) (ce-p)) (s.2.1+y.2.1) 0)]:=hm.upd (i:=0) rfl hu;(conv=>whnf);refine CallV.of (qbp cb _ _ 0 w4 (hm.get (List.mem_cons_self ..))) ?_;rintro r w5 ⟨rfl,rfl⟩;conv=>whnf
    (repeat' (first|(refine zA ?_;(conv=>whnf))|((with_reducible refine zT ?_);(conv=>whnf))|((with_reducible refine zU ?_);(conv=>whnf))|((with_reducible refine zC (fun _=>?_) (fun _=>?_))<;>first|(exfalso;omega)|(conv=>whnf))|(refine Wit.conv ⟨by omega,by omega⟩ ?_;(conv=>whnf))))
    ·have hent:entG B false last.data.toList=([],0,161):=by rw [hE,if_pos (by omega)]
     rw [qcc,if_neg (by omega),← eB,hent];exact ⟨rfl,hm.ext⟩
    ·have hent:entG B false last.data.toList=([],0,2):=by rw [hE,if_neg (by omega),if_pos (by omega)]
     rw [qcc,if_neg (by omega),← eB,hent];exact ⟨rfl,hm.ext⟩
    ·have hent:entG B false last.data.toList=([],0,2):=by rw [hE,if_neg (by omega),if_pos (by omega)]
     rw [qcc,if_neg (by omega),← eB,hent];exact ⟨rfl,hm.ext⟩
    refine CallV.of (qk0 cb _ (s.2.1+y.2.1) 0 B w5 (hm.get (List.mem_cons_self ..)) (hvB w5 hm.ext) (by omega) (by omega)) ?_;rintro r w6 ⟨rfl,he6⟩;have hm:=hm.call he6;(conv=>whnf);refine Wit.conv ⟨by omega,by omega⟩ ?_;(conv=>whnf);refine zC (fun _=>?_) (fun _=>?_)<;>(conv=>whnf)
    ·have hent:entG B false last.data.toList=([],0,10):=by rw [hE,if_neg (by omega),if_neg (by omega),if_pos (by omega)]
     rw [qcc,if_neg (by omega),← eB,hent];exact ⟨rfl,hm.ext⟩
    have hent:entG B false last.data.toList=(last.data.toList.take s.1++(B.drop (s.2.1+y.2.1)).take y.1,s.2.1+y.2.1+y.1,0):=by rw [hE,if_neg (by omega),if_neg (by omega),if_neg (by omega)]
    rw [qcc,if_neg (by omega),← eB,hent];refine CallV.of (qg2 cb _ (s.2.1+y.2.1) 0 w6 (hm.get (List.mem_cons_self ..))) ?_;rintro r w7 ⟨rfl,rfl⟩;(conv=>whnf);refine zA ?_;(conv=>whnf);refine DrawV.quiet (by kernel_rfl) (by kernel_rfl) ?_;(conv=>whnf);have hm:=hm.drew;(iterate 2 (refine zW ?_;(conv=>whnf)));refine SliceS.at_ 0 s.1 rfl (by show (_:Int)=_;omega) (by omega) (by omega) ?_;(conv=>whnf);(iterate 4 (refine zW ?_;(conv=>whnf)));refine LoadV.own (hm.ext.get h1) rfl ?_;(conv=>whnf);(iterate 4 (refine zW ?_;(conv=>whnf)));refine Wit.conv ⟨by omega,by omega⟩ ?_;(conv=>whnf);refine zW ?_;(conv=>whnf);refine zA ?_;(conv=>whnf);refine zW ?_;(conv=>whnf);refine SliceV.bs (h3.ext hm.ext) rfl (p+(s.2.1+y.2.1)) (p+(s.2.1+y.2.1)+y.1) ce (by show (_:Int)=_;omega) (by show (_:Int)=_;omega) rfl (by omega) (by omega) (by omega) (Nat.le_refl _) (fun h=>by cases h) ?_;intro A2 hA2;(conv=>whnf);refine zW ?_;(conv=>whnf);have ecut:((D.drop (p+(s.2.1+y.2.1))).take (p+(s.2.1+y.2.1)+y.1-(p+(s.2.1+y.2.1))))=(B.drop (s.2.1+y.2.1)).take y.1:=by
     rw [eB,List.drop_drop];congr 1;omega
    rw [ecut] at hA2;refine BytesS.sl hA2 (by rw [List.length_take,List.length_drop];omega) ?_;(conv=>whnf);refine zW ?_;(conv=>whnf);have z1:(last.extract 0 s.1).size=s.1:=by rw [ByteArray.size_extract];omega
    have z2:(⟨((B.drop (s.2.1+y.2.1)).take y.1).toArray⟩:ByteArray).size=y.1:=by
     show (List.toArray _).size=_;rw [List.size_toArray,List.length_take,List.length_drop];omega
    refine Obl.mk (by rw [z1,z2];omega) ?_;(conv=>whnf);have hcat:last.extract 0 s.1++⟨((B.drop (s.2.1+y.2.1)).take y.1).toArray⟩=(⟨(last.data.toList.take s.1++(B.drop (s.2.1+y.2.1)).take y.1).toArray⟩:ByteArray):=by
     apply ByteArray.ext;rw [← Array.toList_inj,ByteArray.data_append,ByteArray.data_extract];simp
    rw [hcat,if_neg (by simp)];(iterate 3 (refine zW ?_;(conv=>whnf)));refine Wit.conv ⟨by omega,by omega⟩ ?_;(conv=>whnf);refine zW ?_;(conv=>whnf);refine zA ?_;(conv=>whnf);(iterate 4 (refine zW ?_;(conv=>whnf)));refine ⟨?_,hm.ext⟩;have e8:((p:Int)+((s.2.1+y.2.1:Nat):Int)+((y.1:Nat):Int))=((p+(s.2.1+y.2.1+y.1):Nat):Int):=by omega
    rw [e8];rfl
   ·obtain ⟨q1,q2,q3⟩:=qoh he2;rw [q2,q3] at hu;rw [q1];have hm:Mem w w4 [(cb,curO 251 (.slice A' (D.length-p) (ce-p)) s.2.1 (numL (B.drop s.2.1)).2.2)]:=hm.upd (i:=0) rfl hu;(conv=>whnf);refine CallV.of (qbp cb _ _ _ w4 (hm.get (List.mem_cons_self ..))) ?_;rintro r w5 ⟨rfl,rfl⟩;(conv=>whnf);refine zY (fun _=>?_);(conv=>whnf);have hent:(entG B false last.data.toList)=([],0,(numL (B.drop s.2.1)).2.2):=by
     simp only [entG,Bool.false_eq_true,if_false,← es];rw [if_neg (by omega),if_pos he2]
    rw [qcc,if_neg (by omega),← eB,hent,if_pos he2];exact ⟨rfl,hm.ext⟩
  ·obtain ⟨q1,q2,q3⟩:=qoh he;rw [q2,q3] at hu;rw [q1];have hm:Mem w w2 [(cb,curO 251 (.slice A' (D.length-p) (ce-p)) 0 (numL B).2.2)]:=hm.upd (i:=0) rfl hu;have he':(numL B).2.2≠0:=he;(conv=>whnf);refine CallV.of (qbp cb _ _ _ w2 (hm.get (List.mem_cons_self ..))) ?_;rintro r w3 ⟨rfl,rfl⟩;(conv=>whnf);refine zY (fun _=>?_);(conv=>whnf);have hent:qcc D p false last.data.toList=([],0,(numL B).2.2):=by
    have:(entG B false last.data.toList).2.2=(numL B).2.2:=by
     simp only [entG,Bool.false_eq_true,if_false];rw [if_pos he']
    rw [qcc,if_neg (by omega),← eB,this,if_pos he']
   rw [hent];exact ⟨rfl,hm.ext⟩
 ·refine zP ?_;refine zT ?_;(conv=>whnf);have es:s=(0,0,0):=es;have hm:Mem w w1 [(cb,curO 251 (.slice A' (D.length-p) (ce-p)) s.2.1 0)]:=by rw [es];exact hm
  have e2:s.2.2=0:=by rw [es]
  refine CallV.of (qbp cb _ _ 0 w1 (hm.get (List.mem_cons_self ..))) ?_;rintro r w3 ⟨rfl,rfl⟩;(conv=>whnf);refine zN (fun _=>?_);(conv=>whnf);refine CallV.of (qch cb _ s.2.1 0 B _ (hm.get (List.mem_cons_self ..)) (hvB _ hm.ext) hsb.2 (by omega)) ?_;rintro r w4 ⟨rfl,hu⟩;have hx1:=qah (B.drop s.2.1);rw [List.length_drop] at hx1
  by_cases he2:(numL (B.drop s.2.1)).2.2=0
  ·obtain ⟨q1,q2,q3⟩:=qoi he2;rw [q2,q3] at hu;rw [q1];clear q1 q2 q3;obtain ⟨y,ey⟩:∃ y,y=numL (B.drop s.2.1):=⟨_,rfl⟩
   rw [← ey] at he2 hu hx1 ⊢;have hE:=qsx (ahead:=last.data.toList) (first:=true) es ey e2 he2;have hll:last.data.toList.length=last.size:=rfl;have hs1:s.1=0:=by rw [es]
   have hm:Mem w w4 [(cb,curO 251 (.slice A' (D.length-p) (ce-p)) (s.2.1+y.2.1) 0)]:=hm.upd (i:=0) rfl hu;(conv=>whnf);refine CallV.of (qbp cb _ _ 0 w4 (hm.get (List.mem_cons_self ..))) ?_;rintro r w5 ⟨rfl,rfl⟩;conv=>whnf
   (repeat' (first|(refine zA ?_;(conv=>whnf))|((with_reducible refine zT ?_);(conv=>whnf))|((with_reducible refine zU ?_);(conv=>whnf))|((with_reducible refine zC (fun _=>?_) (fun _=>?_))<;>first|(exfalso;omega)|(conv=>whnf))|(refine Wit.conv ⟨by omega,by omega⟩ ?_;(conv=>whnf))))
   ·have hent:entG B true last.data.toList=([],0,2):=by rw [hE,if_neg (by omega),if_pos (by omega)]
    rw [qcc,if_neg (by omega),← eB,hent];exact ⟨rfl,hm.ext⟩
   refine CallV.of (qk0 cb _ (s.2.1+y.2.1) 0 B w5 (hm.get (List.mem_cons_self ..)) (hvB w5 hm.ext) (by omega) (by omega)) ?_;rintro r w6 ⟨rfl,he6⟩;have hm:=hm.call he6;(conv=>whnf);refine Wit.conv ⟨by omega,by omega⟩ ?_;(conv=>whnf);refine zC (fun _=>?_) (fun _=>?_)<;>(conv=>whnf)
   ·have hent:entG B true last.data.toList=([],0,10):=by rw [hE,if_neg (by omega),if_neg (by omega),if_pos (by omega)]
    rw [qcc,if_neg (by omega),← eB,hent];exact ⟨rfl,hm.ext⟩
   have hent:entG B true last.data.toList=(last.data.toList.take s.1++(B.drop (s.2.1+y.2.1)).take y.1,s.2.1+y.2.1+y.1,0):=by rw [hE,if_neg (by omega),if_neg (by omega),if_neg (by omega)]
   rw [qcc,if_neg (by omega),← eB,hent];refine CallV.of (qg2 cb _ (s.2.1+y.2.1) 0 w6 (hm.get (List.mem_cons_self ..))) ?_;rintro r w7 ⟨rfl,rfl⟩;(conv=>whnf);refine zA ?_;(conv=>whnf);refine DrawV.quiet (by kernel_rfl) (by kernel_rfl) ?_;(conv=>whnf);have hm:=hm.drew;(iterate 2 (refine zW ?_;(conv=>whnf)));refine SliceS.at_ 0 s.1 rfl (by show (_:Int)=_;omega) (by omega) (by omega) ?_;(conv=>whnf);(iterate 4 (refine zW ?_;(conv=>whnf)));refine LoadV.own (hm.ext.get h1) rfl ?_;(conv=>whnf);(iterate 4 (refine zW ?_;(conv=>whnf)));refine Wit.conv ⟨by omega,by omega⟩ ?_;(conv=>whnf);refine zW ?_;(conv=>whnf);refine zA ?_;(conv=>whnf);refine zW ?_;(conv=>whnf);refine SliceV.bs (h3.ext hm.ext) rfl (p+(s.2.1+y.2.1)) (p+(s.2.1+y.2.1)+y.1) ce (by show (_:Int)=_;omega) (by show (_:Int)=_;omega) rfl (by omega) (by omega) (by omega) (Nat.le_refl _) (fun h=>by cases h) ?_;intro A2 hA2;(conv=>whnf);refine zW ?_;(conv=>whnf);have ecut:((D.drop (p+(s.2.1+y.2.1))).take (p+(s.2.1+y.2.1)+y.1-(p+(s.2.1+y.2.1))))=(B.drop (s.2.1+y.2.1)).take y.1:=by
    rw [eB,List.drop_drop];congr 1;omega
   rw [ecut] at hA2;refine BytesS.sl hA2 (by rw [List.length_take,List.length_drop];omega) ?_;(conv=>whnf);refine zW ?_;(conv=>whnf);have z1:(last.extract 0 s.1).size=s.1:=by rw [ByteArray.size_extract];omega
   have z2:(⟨((B.drop (s.2.1+y.2.1)).take y.1).toArray⟩:ByteArray).size=y.1:=by
    show (List.toArray _).size=_;rw [List.size_toArray,List.length_take,List.length_drop];omega
   refine Obl.mk (by rw [z1,z2];omega) ?_;(conv=>whnf);have hcat:last.extract 0 s.1++⟨((B.drop (s.2.1+y.2.1)).take y.1).toArray⟩=(⟨(last.data.toList.take s.1++(B.drop (s.2.1+y.2.1)).take y.1).toArray⟩:ByteArray):=by
    apply ByteArray.ext;rw [← Array.toList_inj,ByteArray.data_append,ByteArray.data_extract];simp
   rw [hcat,if_neg (by simp)];(iterate 3 (refine zW ?_;(conv=>whnf)));refine Wit.conv ⟨by omega,by omega⟩ ?_;(conv=>whnf);refine zW ?_;(conv=>whnf);refine zA ?_;(conv=>whnf);(iterate 4 (refine zW ?_;(conv=>whnf)));refine ⟨?_,hm.ext⟩;have e8:((p:Int)+((s.2.1+y.2.1:Nat):Int)+((y.1:Nat):Int))=((p+(s.2.1+y.2.1+y.1):Nat):Int):=by omega
   rw [e8];rfl
  ·obtain ⟨q1,q2,q3⟩:=qoh he2;rw [q2,q3] at hu;rw [q1];have hm:Mem w w4 [(cb,curO 251 (.slice A' (D.length-p) (ce-p)) s.2.1 (numL (B.drop s.2.1)).2.2)]:=hm.upd (i:=0) rfl hu;(conv=>whnf);refine CallV.of (qbp cb _ _ _ w4 (hm.get (List.mem_cons_self ..))) ?_;rintro r w5 ⟨rfl,rfl⟩;(conv=>whnf);refine zY (fun _=>?_);(conv=>whnf);have hent:(entG B true last.data.toList)=([],0,(numL (B.drop s.2.1)).2.2):=by
    simp only [entG,if_true,← es];rw [if_neg (by omega),if_pos he2]
   rw [qcc,if_neg (by omega),← eB,hent,if_pos he2];exact ⟨rfl,hm.ext⟩
open Go.RowKit V
set_option maxRecDepth 100000
def entR (l:List UInt8) (p:Nat) (first:Bool) (last:List UInt8):Value:=
 if (entG (l.drop p) first last).2.2=0 then .tuple #[.string ⟨(entG (l.drop p) first last).1.toArray⟩,.int .i64 (p+(entG (l.drop p) first last).2.1:Nat),.int .i64 0]
 else .tuple #[.string ⟨#[]⟩,.int .i64 0,.int .i64 (entG (l.drop p) first last).2.2]
theorem qsy {m ahead:List UInt8} {first:Bool} {s:Nat × Nat × Nat} (es:s=if first then (0,0,0) else numL m) (e2:s.2.2=0) :
  entG m first ahead=if (numL (m.drop s.2.1)).2.2≠0 then ([],0,(numL (m.drop s.2.1)).2.2) else if ahead.length<s.1 then ([],0,161) else if 262144<(numL (m.drop s.2.1)).1∨262144<s.1+(numL (m.drop s.2.1)).1 then ([],0,2) else if m.length-s.2.1-(numL (m.drop s.2.1)).2.1<(numL (m.drop s.2.1)).1 then ([],0,10) else (ahead.take s.1++(m.drop (s.2.1+(numL (m.drop s.2.1)).2.1)).take (numL (m.drop s.2.1)).1,s.2.1+(numL (m.drop s.2.1)).2.1+(numL (m.drop s.2.1)).1,0):=by
 unfold entG;rw [← es];dsimp only;rw [if_neg (by omega)]
theorem qvx {m ahead:List UInt8} (h:(numL m).2.2≠0):entG m false ahead=([],0,(numL m).2.2):=by
 unfold entG;simp only [Bool.false_eq_true,if_false];rw [if_pos h]
set_option maxHeartbeats 2000000 in
theorem qey (l:List UInt8) (A:Option Addr) (c p:Nat) (first:Bool) (last:ByteArray) (w:World) (hS:SlAt encB 1 w A l) (hc:l.length≤c) (hl:l.length≤140737488355328) (hp:p≤l.length) (hlast:last.size≤262144) :
  Gv Tryz.prog 178 [.slice A l.length c,.int .i64 p,.bool first,.string last] w fun r w'=>r=entR l p first last.data.toList∧Ext w w':=by
 obtain ⟨B,eB⟩:∃ B,B=l.drop p:=⟨_,rfl⟩
 have hBl:B.length=l.length-p:=by rw [eB,List.length_drop]
 refine zE Tryz.func178 Tryz.ntmps178 ?_;(conv=>whnf);cases first
 ·refine zP ?_;refine zU ?_;(conv=>whnf);refine SliceV.bs hS rfl p l.length c rfl rfl rfl (by omega) (Nat.le_refl _) hc (Nat.le_refl _) (fun h=>by cases h) ?_;intro A' hA';rw [List.take_of_length_le (by rw [List.length_drop];exact Nat.le_refl _),← eB] at hA';(conv=>whnf);refine CallV.of (qa9 B A' _ _ _ hA' hBl (by omega)) ?_;rintro r w3 ⟨rfl,rfl⟩;obtain ⟨q1,eq1⟩:∃ q1,q1=(numL B).2.2:=⟨_,rfl⟩
  obtain ⟨s1,es1⟩:∃ s1,s1=(numL B).2.1:=⟨_,rfl⟩
  obtain ⟨x1,ex1⟩:∃ x1,x1=(numL B).1:=⟨_,rfl⟩
  have hb1:=qah B;rw [← es1,← ex1,hBl] at hb1;rw [numV,← ex1,← es1,← eq1];conv=>whnf
  (repeat' (first|(refine zA ?_;(conv=>whnf))|((with_reducible refine zC (fun _=>?_) (fun _=>?_))<;>first|(exfalso;omega)|(conv=>whnf))))
  ·have hent:entG B false last.data.toList=([],0,q1):=by
    rw [qvx (by omega),eq1]
   exact ⟨by rw [entR,← eB,hent,if_neg (by show ¬ q1=0;omega)],Ext.refl _⟩
  refine SliceV.bs hS rfl (p+s1) l.length c (by first|rfl|(show (_:Int)=_;omega)) rfl rfl (by omega) (Nat.le_refl _) hc (Nat.le_refl _) (fun h=>by cases h) ?_;intro A2 hA2;rw [List.take_of_length_le (by rw [List.length_drop];exact Nat.le_refl _),show l.drop (p+s1)=B.drop s1 from by rw [eB,List.drop_drop]] at hA2;(conv=>whnf);refine CallV.of (qa9 (B.drop s1) A2 _ _ _ hA2 (by rw [List.length_drop,hBl];omega) (by rw [List.length_drop,hBl];omega)) ?_;rintro r w4 ⟨rfl,rfl⟩;obtain ⟨q2,eq2⟩:∃ q2,q2=(numL (B.drop s1)).2.2:=⟨_,rfl⟩
  obtain ⟨s2,es2⟩:∃ s2,s2=(numL (B.drop s1)).2.1:=⟨_,rfl⟩
  obtain ⟨x2,ex2⟩:∃ x2,x2=(numL (B.drop s1)).1:=⟨_,rfl⟩
  have hb2:=qah (B.drop s1);rw [← es2,← ex2,List.length_drop,hBl] at hb2;rw [numV,← ex2,← es2,← eq2];have hE0:=qsy (m:=B) (ahead:=last.data.toList) (first:=false) (s:=(x1,s1,q1)) (by rw [ex1,es1,eq1];rfl) (by show q1=0;omega);dsimp only at hE0;rw [← ex2,← es2,← eq2,hBl] at hE0;have hll:last.data.toList.length=last.size:=rfl;conv=>whnf
  (repeat' (first|(refine zA ?_;(conv=>whnf))|((with_reducible refine zT ?_);(conv=>whnf))|((with_reducible refine zU ?_);(conv=>whnf))|((with_reducible refine zC (fun _=>?_) (fun _=>?_))<;>first|(exfalso;omega)|(conv=>whnf))|(refine Wit.conv ⟨by omega,by omega⟩ ?_;(conv=>whnf))))
  ·have hent:entG B false last.data.toList=([],0,q2):=by rw [hE0,if_pos (by omega)]
   exact ⟨by rw [entR,← eB,hent,if_neg (by show ¬ q2=0;omega)],Ext.refl _⟩
  ·have hent:entG B false last.data.toList=([],0,161):=by rw [hE0,if_neg (by omega),if_pos (by omega)]
   exact ⟨by rw [entR,← eB,hent,if_neg (by simp)];rfl,Ext.refl _⟩
  ·have hent:entG B false last.data.toList=([],0,2):=by rw [hE0,if_neg (by omega),if_neg (by omega),if_pos (by omega)]
   exact ⟨by rw [entR,← eB,hent,if_neg (by simp)];rfl,Ext.refl _⟩
  ·have hent:entG B false last.data.toList=([],0,2):=by rw [hE0,if_neg (by omega),if_neg (by omega),if_pos (by omega)]
   exact ⟨by rw [entR,← eB,hent,if_neg (by simp)];rfl,Ext.refl _⟩
  ·have hent:entG B false last.data.toList=([],0,10):=by rw [hE0,if_neg (by omega),if_neg (by omega),if_neg (by omega),if_pos (by omega)]
   exact ⟨by rw [entR,← eB,hent,if_neg (by simp)];rfl,Ext.refl _⟩
  have hent:entG B false last.data.toList=(last.data.toList.take x1++(B.drop (s1+s2)).take x2,s1+s2+x2,0):=by rw [hE0,if_neg (by omega),if_neg (by omega),if_neg (by omega),if_neg (by omega)]
  have hS:=hS.ext (Ext.refl w4).drew;refine DrawV.quiet (by kernel_rfl) (by kernel_rfl) ?_;(conv=>whnf);(iterate 2 (refine zW ?_;(conv=>whnf)));refine SliceS.at_ 0 x1 rfl (by show (_:Int)=_;omega) (by omega) (by omega) ?_;(conv=>whnf);(iterate 5 (refine zW ?_;(conv=>whnf)));refine Wit.conv ⟨by omega,by omega⟩ ?_;(conv=>whnf);refine zW ?_;(conv=>whnf);refine zA ?_;(conv=>whnf);refine zW ?_;(conv=>whnf);refine SliceV.bs hS rfl (p+s1+s2) (p+s1+s2+x2) c (by show (_:Int)=_;omega) (by show (_:Int)=_;omega) rfl (by omega) (by omega) (by omega) (Nat.le_refl _) (fun h=>by cases h) ?_;intro A3 hA3;(conv=>whnf);refine zW ?_;(conv=>whnf);have ecut:((l.drop (p+s1+s2)).take (p+s1+s2+x2-(p+s1+s2)))=(B.drop (s1+s2)).take x2:=by
   rw [eB,List.drop_drop];congr 1
   ·omega
   ·congr 1;omega
  rw [ecut] at hA3;refine BytesS.sl hA3 (by rw [List.length_take,List.length_drop];omega) ?_;(conv=>whnf);refine zW ?_;(conv=>whnf);have z1:(last.extract 0 x1).size=x1:=by rw [ByteArray.size_extract];omega
  have z2:(⟨((B.drop (s1+s2)).take x2).toArray⟩:ByteArray).size=x2:=by
   show (List.toArray _).size=_;rw [List.size_toArray,List.length_take,List.length_drop];omega
  refine Obl.mk (by rw [z1,z2];omega) ?_;(conv=>whnf);have hcat:last.extract 0 x1++⟨((B.drop (s1+s2)).take x2).toArray⟩=(⟨(last.data.toList.take x1++(B.drop (s1+s2)).take x2).toArray⟩:ByteArray):=by
   apply ByteArray.ext;rw [← Array.toList_inj,ByteArray.data_append,ByteArray.data_extract];simp
  rw [hcat];(iterate 3 (refine zW ?_;(conv=>whnf)));refine Wit.conv ⟨by omega,by omega⟩ ?_;(conv=>whnf);refine zW ?_;(conv=>whnf);refine zA ?_;(conv=>whnf);(iterate 4 (refine zW ?_;(conv=>whnf)));refine ⟨?_,(Ext.refl _).drew⟩;have e8:((p:Int)+(s1:Int)+(s2:Int)+(x2:Int))=((p+(s1+s2+x2):Nat):Int):=by omega
  rw [e8,entR,← eB,hent,if_pos rfl]
 ·refine zP ?_;refine zT ?_;(conv=>whnf);refine SliceV.bs hS rfl (p) l.length c (by first|rfl|(show (_:Int)=_;omega)) rfl rfl (by omega) (Nat.le_refl _) hc (Nat.le_refl _) (fun h=>by cases h) ?_;intro A2 hA2;rw [List.take_of_length_le (by rw [List.length_drop];exact Nat.le_refl _),show l.drop (p)=B.drop 0 from by rw [eB];rfl] at hA2;(conv=>whnf);refine CallV.of (qa9 (B.drop 0) A2 _ _ _ hA2 (by rw [List.length_drop,hBl];omega) (by rw [List.length_drop,hBl];omega)) ?_;rintro r w4 ⟨rfl,rfl⟩;obtain ⟨q2,eq2⟩:∃ q2,q2=(numL (B.drop 0)).2.2:=⟨_,rfl⟩
  obtain ⟨s2,es2⟩:∃ s2,s2=(numL (B.drop 0)).2.1:=⟨_,rfl⟩
  obtain ⟨x2,ex2⟩:∃ x2,x2=(numL (B.drop 0)).1:=⟨_,rfl⟩
  have hb2:=qah (B.drop 0);rw [← es2,← ex2,List.length_drop,hBl] at hb2;rw [numV,← ex2,← es2,← eq2];have hE0:=qsy (m:=B) (ahead:=last.data.toList) (first:=true) (s:=(0,0,0)) rfl rfl;dsimp only at hE0;rw [← ex2,← es2,← eq2,hBl] at hE0;have hll:last.data.toList.length=last.size:=rfl;conv=>whnf
  (repeat' (first|(refine zA ?_;(conv=>whnf))|((with_reducible refine zT ?_);(conv=>whnf))|((with_reducible refine zU ?_);(conv=>whnf))|((with_reducible refine zC (fun _=>?_) (fun _=>?_))<;>first|(exfalso;omega)|(conv=>whnf))|(refine Wit.conv ⟨by omega,by omega⟩ ?_;(conv=>whnf))))
  ·have hent:entG B true last.data.toList=([],0,q2):=by rw [hE0,if_pos (by omega)]
   exact ⟨by rw [entR,← eB,hent,if_neg (by show ¬ q2=0;omega)],Ext.refl _⟩
  ·have hent:entG B true last.data.toList=([],0,2):=by rw [hE0,if_neg (by omega),if_neg (by omega),if_pos (by omega)]
   exact ⟨by rw [entR,← eB,hent,if_neg (by simp)];rfl,Ext.refl _⟩
  ·have hent:entG B true last.data.toList=([],0,10):=by rw [hE0,if_neg (by omega),if_neg (by omega),if_neg (by omega),if_pos (by omega)]
   exact ⟨by rw [entR,← eB,hent,if_neg (by simp)];rfl,Ext.refl _⟩
  have hent:entG B true last.data.toList=(last.data.toList.take 0++(B.drop (0+s2)).take x2,0+s2+x2,0):=by rw [hE0,if_neg (by omega),if_neg (by omega),if_neg (by omega),if_neg (by omega)]
  have hS:=hS.ext (Ext.refl w4).drew;refine DrawV.quiet (by kernel_rfl) (by kernel_rfl) ?_;(conv=>whnf);(iterate 2 (refine zW ?_;(conv=>whnf)));refine SliceS.at_ 0 0 rfl (by show (_:Int)=_;omega) (by omega) (by omega) ?_;(conv=>whnf);(iterate 5 (refine zW ?_;(conv=>whnf)));refine Wit.conv ⟨by omega,by omega⟩ ?_;(conv=>whnf);refine zW ?_;(conv=>whnf);refine zA ?_;(conv=>whnf);refine zW ?_;(conv=>whnf);refine SliceV.bs hS rfl (p+s2) (p+s2+x2) c (by show (_:Int)=_;omega) (by show (_:Int)=_;omega) rfl (by omega) (by omega) (by omega) (Nat.le_refl _) (fun h=>by cases h) ?_;intro A3 hA3;(conv=>whnf);refine zW ?_;(conv=>whnf);have ecut:((l.drop (p+s2)).take (p+s2+x2-(p+s2)))=(B.drop (0+s2)).take x2:=by
   rw [eB,List.drop_drop];congr 1
   ·omega
   ·congr 1;omega
  rw [ecut] at hA3;refine BytesS.sl hA3 (by rw [List.length_take,List.length_drop];omega) ?_;(conv=>whnf);refine zW ?_;(conv=>whnf);have z1:(last.extract 0 0).size=0:=by rw [ByteArray.size_extract];omega
  have z2:(⟨((B.drop (0+s2)).take x2).toArray⟩:ByteArray).size=x2:=by
   show (List.toArray _).size=_;rw [List.size_toArray,List.length_take,List.length_drop];omega
  refine Obl.mk (by rw [z1,z2];omega) ?_;(conv=>whnf);have hcat:last.extract 0 0++⟨((B.drop (0+s2)).take x2).toArray⟩=(⟨(last.data.toList.take 0++(B.drop (0+s2)).take x2).toArray⟩:ByteArray):=by
   apply ByteArray.ext;rw [← Array.toList_inj,ByteArray.data_append,ByteArray.data_extract];simp
  rw [hcat];(iterate 3 (refine zW ?_;(conv=>whnf)));refine Wit.conv ⟨by omega,by omega⟩ ?_;(conv=>whnf);refine zW ?_;(conv=>whnf);refine zA ?_;(conv=>whnf);(iterate 4 (refine zW ?_;(conv=>whnf)));refine ⟨?_,(Ext.refl _).drew⟩;have e8:((p:Int)+(s2:Int)+(x2:Int))=((p+(0+s2+x2):Nat):Int):=by omega
  rw [e8,entR,← eB,hent,if_pos rfl]
open Go.RowKit V
set_option maxRecDepth 100000
theorem OpS.read {p:List UInt8} {n wd k c base:Nat} {A:Option Addr} {w:World} (h:OpS p n wd base (.slice A k c) w) (hE:opE p n wd=0):∃ xs:List Nat,SlAt encU 1 w A xs∧xs.length=k∧∀ j,j<n→xs.getD j 0=valB p (j*wd) wd:=by
 rcases h with ⟨h1,h2⟩|⟨h1,h2,h3⟩|⟨h1,h2,b,h3,h4,h5⟩
 ·exact absurd hE h1
 ·cases h3;exact ⟨[],⟨fun h=>absurd rfl h⟩,rfl,fun j _=>by rw [h2];rfl⟩
 ·cases h3;refine ⟨unpN p n wd,⟨fun hne=>⟨b,0,rfl,fun j x hx k u hu=>?_⟩⟩,qbg ..,fun j hj=>by simp [unpN,List.getD_eq_getElem?_getD,hj]⟩;cases k with
  | succ k=>simp [encU] at hu
  | zero=>
   simp only [encU,List.getElem?_cons_zero,Option.some.injEq] at hu;subst hu;rw [qd h5];simp only [Nat.mul_one,Nat.add_zero,Nat.zero_add,List.getElem?_toArray,unpV,List.getElem?_map,hx];rfl
theorem qs0 {f:Nat→Nat × Nat} {b:Nat} (h:∀ k,(f k).1≤b):∀ n,(errF f n).1≤b
 | 0=>Nat.zero_le _
 | n+1=>by
  rw [errF]
  split
  ·exact qs0 h n
  ·exact h n
theorem qeh (l:List UInt8) (k most:Nat):(numE l k most).1≤l.length:=by
 unfold numE
 split
 ·exact qbs l k
 ·split
  ·exact qbs l k
  ·exact Nat.zero_le _
theorem qvr (m:List UInt8):(dE m).1≤m.length:=by
 unfold dE
 split
 ·exact qs0 (fun k=>qeh m k _) 2
 ·split
  ·exact Nat.le_refl _
  ·split
   ·simp only;omega
   ·exact Nat.zero_le _
theorem qkl {m a:List UInt8} (h:(entG m false a).2.2=0):(numL m).1≤a.length:=by
 unfold entG at h;simp only [Bool.false_eq_true,if_false] at h
 split at h
 ·rename_i g;exact absurd h g
 split at h
 ·rename_i g;exact absurd h g
 split at h
 ·cases h
 ·omega
def DvR (l:List UInt8) (base:Nat) (v:Value) (w:World):Prop:=
 (∃ a e:Int,e≠0∧-1≤a∧a≤l.length∧v=.tuple #[.slice none 0 0,fltV a e])∨
 ((dE l).2=0∧∃ ts:List ByteArray,(∀ i t,ts[i]?=some t→dGet l i=some t.data.toList)∧ts.length=dN l∧∃ B c,v=.tuple #[.slice B (dN l) c,fltV 0 0]∧w.ownsRow base 9 1 (.slice B (dN l) c) (dN l) (ts.map Value.string))
structure OSt (l:List UInt8) (i:Nat) (ts:List ByteArray) (last:ByteArray) (p:Nat):Prop where
 st:DSt l i last.data.toList p
 len:ts.length=i
 get:∀ j t,ts[j]?=some t→dGet l j=some t.data.toList
 zero:i=0→last=⟨#[]⟩
 lst:∀ j,i=j+1→ts[j]?=some last
 size:last.size≤262144
theorem OSt.step {l:List UInt8} {i p:Nat} {ts:List ByteArray} {last:ByteArray} (h:OSt l i ts last p) (hi:i<dN l) {first:Bool} (hf:first=decide (i%16=0)) (hp:i%16=0→qad l (i/16)=p)
  (he:(entG (l.drop (qf l+p)) first last.data.toList).2.2=0):OSt l (i+1) (ts++[⟨(entG (l.drop (qf l+p)) first last.data.toList).1.toArray⟩]) ⟨(entG (l.drop (qf l+p)) first last.data.toList).1.toArray⟩ (p+(entG (l.drop (qf l+p)) first last.data.toList).2.1):=by
 have e:l.drop (qf l+p)=(qj l).drop p:=by rw [qj,List.drop_drop]
 rw [e] at he ⊢;have hs:=h.st.step hp hf he;have hl:=h.len;refine ⟨hs,by simp [hl],fun j t hj=>?_,fun h=>by omega,fun j hj=>?_,?_⟩
 ·rw [List.getElem?_append] at hj
  split at hj
  ·exact h.get j t hj
  ·rename_i hge
   obtain rfl:j=i:=by
    rcases Nat.lt_or_ge (j-ts.length) 1 with h1|h1
    ·omega
    ·rw [List.getElem?_eq_none (by simpa using h1)] at hj;cases hj
   rw [hl,Nat.sub_self] at hj;cases hj;exact hs.get hi
 ·obtain rfl:j=i:=by omega
  rw [List.getElem?_append_right (by omega),hl,Nat.sub_self];rfl
 ·have:=(qcv he).1;show (List.toArray _).size≤_;rw [List.size_toArray];exact this
set_option maxHeartbeats 4000000 in
theorem qsr (l:List UInt8) (A:Option Addr) (c:Nat) (w:World) (hS:SlAt encB 1 w A l) (hc:l.length≤c) (hl:l.length≤140737488355328) :
  Gv Tryz.prog 113 [.slice A l.length c] w fun v w'=>DvR l w.heap.size v w'∧Ext w w':=by
 have hdle:=qvr l;refine zE Tryz.func113 Tryz.ntmps113 ?_;(conv=>whnf);refine NewV.mem (Mem.nil w) ?_;intro r3 w1 hm;(conv=>whnf);refine CallV.of (qlx l A c w1 (hS.ext hm.ext) hc hl) ?_;rintro r w2 ⟨⟨hE,rfl⟩|⟨hE,rfl⟩,he2⟩
 ·have hm:=hm.call he2;(conv=>whnf);refine NewV.mem hm ?_;intro hb w3 hm;(conv=>whnf);refine NewV.mem hm ?_;intro fb w4 hm;(conv=>whnf);refine zS hm 1 ?_;intro w5 hm;(conv=>whnf);refine zS hm 0 ?_;intro w6 hm;have hm:Mem w w6 [(fb,.cells #[.int .i64 (dE l).1,.int .i64 (dE l).2] 198 (0,0)),(hb,.cells #[.int .i64 0,.int .i64 0,.int .i64 0,.int .i64 0] 197 (0,0)),(r3,.cells #[.int .i64 0,.int .i64 0] 198 (0,0))]:=hm;(conv=>whnf);refine LoadV.mem (i:=0) (by assumption) rfl rfl ?_;(conv=>whnf);refine zY (fun _=>?_);(conv=>whnf);refine DrawV.inv (fun S w'=>Mem w w' [(fb,.cells #[.int .i64 (dE l).1,.int .i64 (dE l).2] 198 (0,0)),(hb,.cells #[.int .i64 0,.int .i64 0,.int .i64 0,.int .i64 0] 197 (0,0)),(r3,.cells (bif S 2 then #[.int .i64 (dE l).1,.int .i64 (dE l).2] else #[.int .i64 0,.int .i64 0]) 198 (0,0))]) rfl (by kernel_rfl) hm.drew ?_;clear hm;(conv=>whnf);refine StepI.of (.agg #[.int .i64 (dE l).1,.int .i64 (dE l).2]) (fun S wd hk hp hI=>?_) ?_
  ·(conv=>whnf);refine zL hI 0 ?_;(conv=>whnf);exact ⟨rfl,hI⟩
  (conv=>whnf);refine zI ?_;(conv=>whnf);refine StepI.of undef (fun S wd hk hp hI=>?_) ?_
  ·dsimp only at hI;rw [hk] at hI;(conv=>whnf);refine zS hI 2 ?_;intro wx hmx;(conv=>whnf);exact ⟨rfl,hmx⟩
  (conv=>whnf);intro wz hm;have hm:Mem w wz [(fb,.cells #[.int .i64 (dE l).1,.int .i64 (dE l).2] 198 (0,0)),(hb,.cells #[.int .i64 0,.int .i64 0,.int .i64 0,.int .i64 0] 197 (0,0)),(r3,.cells #[.int .i64 (dE l).1,.int .i64 (dE l).2] 198 (0,0))]:=hm;(conv=>whnf);refine qa (R:=fun v w'=>DvR l w.heap.size v w'∧Ext w w') ?_;(conv=>whnf);refine zL hm 2 ?_;(conv=>whnf);exact ⟨.inl ⟨_,_,(by omega),by omega,by omega,rfl⟩,hm.ext⟩
 have hm:=hm.call he2;obtain ⟨d1,d2,d3⟩:=qvs hE;have d34:qaj l≤qf l:=by unfold qf;omega
 have d4l:qf l≤l.length:=by rw [← d3];unfold dEnd;omega
 have hW:qcn (qdw l)≤64:=qdl 64 _ (by show qdw l<2 ^ 64;omega) (by decide);have hU:upN (dN l) 16≤262144:=by unfold upN;omega
 (conv=>whnf);refine NewV.mem hm ?_;intro hb w3 hm;(conv=>whnf);refine NewV.mem hm ?_;intro fb w4 hm;(conv=>whnf);refine zS hm 1 ?_;intro w5 hm;(conv=>whnf);refine zS hm 0 ?_;intro w6 hm;have hm:Mem w w6 [(fb,.cells #[.int .i64 0,.int .i64 0] 198 (0,0)),(hb,.cells #[.int .i64 (dN l:Nat),.int .i64 (qdw l:Nat),.int .i64 (qaj l:Nat),.int .i64 (qf l:Nat)] 197 (0,0)),(r3,.cells #[.int .i64 0,.int .i64 0] 198 (0,0))]:=hm;(conv=>whnf);refine LoadV.mem (i:=0) (by assumption) rfl rfl ?_;(conv=>whnf);refine zN (fun _=>?_);(conv=>whnf);refine LoadV.mem (i:=1) (by assumption) rfl rfl ?_;(conv=>whnf);(iterate 2 (refine zA ?_;(conv=>whnf)));refine zB ?_;(conv=>whnf);obtain ⟨U,eU⟩:∃ U,U=upN (dN l) 16:=⟨_,rfl⟩
 have eU2:U=(dN l+15)/16:=by rw [eU,upN];rfl
 have eUi:((dN l:Nat)+16-1:Int)/16=(U:Int):=by omega
 rw [eUi];obtain ⟨P,eP⟩:∃ P,P=(if c=qaj l then A else A.map (·.add (qaj l*1))):=⟨_,rfl⟩
 have hP:SlAt encB 1 w P (qz l):=by rw [eP];exact hS.cut (m:=c) (by omega) (by omega) (by omega) rfl
 have lenP:(qz l).length=qf l-qaj l:=by rw [qz,List.length_take,List.length_drop];omega
 have lenP2:(qz l).length=(U*dW l+7)/8:=by rw [lenP,eU];show qaj l+(upN (dN l) 16*dW l+7)/8-_=_;omega
 obtain ⟨E,eE⟩:∃ E:Nat,E=opE (qz l) U (dW l):=⟨_,rfl⟩
 refine DrawV.free (by kernel_rfl) (by kernel_rfl) ?_;(conv=>whnf);refine zD ?_;(conv=>whnf);refine zD ?_;(conv=>whnf);apply StepD.still
 ·intro wd hd;(conv=>whnf);refine LoadV.mem (Mem.call (Mem.drew hm) hd) (i:=1) rfl rfl ?_;(conv=>whnf);exact ⟨Ext.refl _,rfl⟩
 (conv=>whnf);refine zD ?_;(conv=>whnf);apply StepD.still
 ·intro wd hd;(conv=>whnf);refine LoadV.mem (Mem.call (Mem.drew hm) hd) (i:=1) rfl rfl ?_;(conv=>whnf);exact ⟨Ext.refl _,rfl⟩
 (conv=>whnf);apply StepD.still (.slice P (qf l-qaj l) (c-qaj l))
 ·intro wd hd;(conv=>whnf);refine SliceV.to (qaj l) (qf l) c rfl rfl rfl (by omega) (by omega) (Nat.le_refl _) (fun h=>by cases h) ?_;rw [show tsz Tryz.prog 5=1 from by kernel_rfl,← eP];(conv=>whnf);exact ⟨Ext.refl _,rfl⟩
 (conv=>whnf);refine zD ?_;(conv=>whnf);refine zD ?_;(conv=>whnf);apply StepD.still
 ·intro wd hd;(conv=>whnf);refine LoadV.mem (Mem.call (Mem.drew hm) hd) (i:=1) rfl rfl ?_;(conv=>whnf);exact ⟨Ext.refl _,rfl⟩
 (conv=>whnf);refine zD ?_ (by intro wd hd;(conv=>whnf);(refine Wit.conv ⟨by omega,by omega⟩ ?_;(conv=>whnf));exact ⟨Ext.refl _,rfl⟩);(conv=>whnf);apply StepD.still (.int .i64 (dW l:Nat))
 ·intro wd hd;(conv=>whnf);refine CallV.of (qgv (qdw l) wd (by omega)) ?_;rintro v w9 ⟨rfl,rfl⟩;exact ⟨Ext.refl _,rfl⟩
 (conv=>whnf);apply StepD.of (fun v wx=>OpR (qz l) U (dW l) w6.heap.size v wx) (fun _ _ _ h he=>h.ext he)
 ·intro wd hd;(conv=>whnf);have:=qmw (qz l) P (c-qaj l) U (dW l) wd (hP.ext (hm.drew.ext.trans hd)) lenP2 (by omega) hW;rw [lenP] at this;refine CallV.of (this) ?_;rintro v w9 ⟨h1,h2⟩;exact ⟨h2,h1.base hd.size⟩
 (conv=>whnf);apply StepD.of (fun v wx=>OpR (qz l) U (dW l) w6.heap.size v wx) (fun _ _ _ h he=>h.ext he)
 ·intro wd hd;(conv=>whnf);rintro v hv;obtain ⟨A1,k1,c1,rfl,hs⟩:=OpR.split hv;(conv=>whnf);exact ⟨Ext.refl _,hv⟩
 (conv=>whnf);apply StepD.of (fun v wx=>OpS (qz l) U (dW l) w6.heap.size v wx) (fun _ _ _ h he=>h.ext he)
 ·intro wd hd;(conv=>whnf);rintro v hv;obtain ⟨A1,k1,c1,rfl,hs⟩:=OpR.split hv;conv=>whnf
  (try (rintro v2 hv2;(conv=>whnf)))
  exact ⟨Ext.refl _,hs⟩
 (conv=>whnf);apply StepD.still (.int .i64 E)
 ·intro wd hd;conv=>whnf
  (repeat (rintro v hv;(try obtain ⟨A1,k1,c1,rfl,hs⟩:=OpR.split hv);(conv=>whnf)))
  exact ⟨Ext.refl _,by rw [eE]⟩
 (conv=>whnf);apply StepD.of (fun v wx=>OpS (qz l) U (dW l) w6.heap.size v wx) (fun _ _ _ h he=>h.ext he)
 ·intro wd hd;(conv=>whnf);rintro v hv;obtain ⟨A1,k1,c1,rfl⟩:=OpS.slice hv;conv=>whnf
  (repeat (rintro v2 hv2;(first|obtain ⟨A2,k2,c2,rfl,hs⟩:=OpR.split hv2|obtain ⟨A2,k2,c2,rfl⟩:=OpS.slice hv2);(conv=>whnf)))
  exact ⟨Ext.refl _,by assumption⟩
 (conv=>whnf);apply StepD.still (.int .i64 E)
 ·intro wd hd;conv=>whnf
  (repeat (rintro v hv;(try obtain ⟨A1,k1,c1,rfl⟩:=OpS.slice hv);(conv=>whnf)))
  exact ⟨Ext.refl _,rfl⟩
 (conv=>whnf);intro w7 he7;(conv=>whnf);rintro v hv;conv=>whnf
 (repeat (rintro _ _;(conv=>whnf)))
 obtain ⟨Q,k1,c1,rfl⟩:=OpS.slice hv;have hm:=hm.drew.call he7
 by_cases hE1:opE (qz l) U (dW l)=0
 case neg=>
  have hE0:E≠0:=by rw [eE];exact hE1
  refine zY (fun _=>?_);(conv=>whnf);refine DrawV.inv (fun S w'=>Mem w w' [(fb,.cells #[.int .i64 0,.int .i64 0] 198 (0,0)),(hb,.cells #[.int .i64 (dN l:Nat),.int .i64 (qdw l:Nat),.int .i64 (qaj l:Nat),.int .i64 (qf l:Nat)] 197 (0,0)),(r3,.cells (bif S 5 then #[.int .i64 ((qf l:Nat)-1:Int),.int .i64 12] else #[.int .i64 0,.int .i64 0]) 198 (0,0))]) rfl (by kernel_rfl) hm.drew ?_;clear hm;(conv=>whnf);refine zI ?_;(conv=>whnf);refine StepI.of (.int .i64 (qf l:Nat)) (fun S wd hk hp hI=>?_) ?_
  ·(conv=>whnf);refine zR hI 1 ?_;(conv=>whnf);exact ⟨rfl,hI⟩
  (conv=>whnf);refine zI ?_ (by intro S wd hk hp hI;(conv=>whnf);(refine zA ?_;(conv=>whnf));exact ⟨rfl,hI⟩);(conv=>whnf);refine zI ?_;(conv=>whnf);refine zI ?_;(conv=>whnf);refine StepI.of undef (fun S wd hk hp hI=>?_) ?_
  ·dsimp only at hI;rw [hk] at hI;(conv=>whnf);refine zS hI 2 ?_;intro wx hmx;(conv=>whnf);exact ⟨rfl,hmx⟩
  (conv=>whnf);intro wz hm;have hm:Mem w wz [(fb,.cells #[.int .i64 0,.int .i64 0] 198 (0,0)),(hb,.cells #[.int .i64 (dN l:Nat),.int .i64 (qdw l:Nat),.int .i64 (qaj l:Nat),.int .i64 (qf l:Nat)] 197 (0,0)),(r3,.cells #[.int .i64 ((qf l:Nat)-1:Int),.int .i64 12] 198 (0,0))]:=hm;(conv=>whnf);refine qa (R:=fun v w'=>DvR l w.heap.size v w'∧Ext w w') ?_;(conv=>whnf);refine zL hm 2 ?_;(conv=>whnf);exact ⟨.inl ⟨_,_,by decide,by omega,by omega,rfl⟩,hm.ext⟩
 have hE0:E=0:=by rw [eE];exact hE1
 subst hE0;obtain ⟨xs,hX,hXl,hXv⟩:=OpS.read hv hE1;clear hv;refine zN (fun _=>?_);(conv=>whnf);refine LoadV.mem (i:=1) (by assumption) rfl rfl ?_;(conv=>whnf);refine qm (fun x:Nat × List ByteArray × ByteArray × Nat × Option Addr × Nat=>[(0,.slice A l.length c),(3,.pointer (some ⟨r3,0,none⟩)),(4,.pointer (some ⟨hb,0,none⟩)),(7,.slice Q k1 c1),(9,.slice x.2.2.2.2.1 x.1 x.2.2.2.2.2),(10,.int .i64 (qf l+x.2.2.2.1:Nat)),(11,.int .i64 x.1)])
  (fun x w'=>x.1≤dN l∧OSt l x.1 x.2.1 x.2.2.1 x.2.2.2.1∧Rw w7 w' (.slice x.2.2.2.2.1 x.1 x.2.2.2.2.2) 9 1 x.1 (x.2.1.map Value.string) []) (fun x=>dN l-x.1) (0,[],⟨#[]⟩,0,none,0)
  ⟨rfl,rfl,rfl,rfl,rfl,rfl,rfl,trivial⟩ ⟨Nat.zero_le _,⟨⟨Nat.zero_le _,fun j h=>(by cases h)⟩,rfl,fun j t h=>(by cases h),fun _=>rfl,fun j h=>(by cases h),by decide⟩,Rw.nil (Mem.nil w7)⟩ ?_
 have hmz:=hm.ext.size;rintro ⟨i,ts,last,p,B,cc⟩ w8 ρ' ⟨i1,hO,hR⟩;dsimp only at i1 hO hR ⊢;have hm:=hm.call hR.mem.ext;have hple:=hO.st.le;have elen:(qj l).length=l.length-qf l:=by rw [qj,List.length_drop]
 have hlast:=hO.size;have hSw:=hS.ext hm.ext;have hXw:=hX.ext hR.mem.ext;conv=>whnf
 (repeat' (first|(refine zA ?_;(conv=>whnf))|((with_reducible refine zC (fun _=>?_) (fun _=>?_))<;>first|(exfalso;omega)|(conv=>whnf))|(refine LoadV.mem (i:=1) (by assumption) rfl rfl ?_;(conv=>whnf))))
 ·rcases Nat.eq_zero_or_pos i with hi0|hi0
  ·obtain rfl:last=⟨#[]⟩:=hO.zero hi0;have ed:decide (((i:Nat):Int)%16=0)=true:=decide_eq_true (by omega);rw [ed];clear ed;have hm:=hm.drew;have hR:=V.Rw.drew hR;have hSw:=hSw.ext (Ext.refl w8).drew;have hXw:=hXw.ext (Ext.refl w8).drew;refine DrawV.quiet (by kernel_rfl) (by kernel_rfl) ?_;(conv=>whnf);(iterate 2 (refine zW ?_;(conv=>whnf)));(iterate 2 (refine zT ?_;(conv=>whnf);refine zW ?_;(conv=>whnf)));refine zT ?_;(conv=>whnf);refine zB ?_;(conv=>whnf);refine zW ?_;(conv=>whnf);refine zT ?_;(conv=>whnf);rw [show ((i:Nat):Int)/16=((i/16:Nat):Int) by omega];obtain ⟨pl,epl⟩:∃ pl,pl=xs.getD (i/16) 0:=⟨_,rfl⟩
   have hpl:qad l (i/16)=pl:=by rw [epl,hXv _ (by omega)];rfl
   refine ⟨.int .u64 (pl:Nat),by rw [epl];exact qg9 xs Q k1 c1 (i/16) _ hXw hXl,?_⟩;conv=>whnf
   (repeat' (first|(refine zA ?_;(conv=>whnf))|((with_reducible refine zT ?_);(conv=>whnf))|((with_reducible refine zC (fun _=>?_) (fun _=>?_))<;>first|(exfalso;omega)|(conv=>whnf))|(refine Wit.conv ⟨by omega,by omega⟩ ?_;(conv=>whnf))|((with_reducible refine zW ?_);(conv=>whnf))|(refine LoadV.mem (i:=1) (by assumption) rfl rfl ?_;(conv=>whnf))))
   ·refine zS hm 2 ?_;clear hm;intro wa hm;(conv=>whnf);refine qa (R:=fun v w'=>DvR l w.heap.size v w'∧Ext w w') ?_;(conv=>whnf);refine zL hm 2 ?_;(conv=>whnf);exact ⟨.inl ⟨_,_,by decide,by omega,by omega,rfl⟩,hm.ext⟩
   have hpp:i%16=0→qad l (i/16)=p:=fun _=>(by omega)
   refine CallV.of (qey l A c (qf l+p) true ⟨#[]⟩ w8.drew hSw hc hl (by omega) hlast) ?_;rintro r w9 ⟨rfl,he9⟩;have hm:=hm.call he9;have hR:=hR.call he9;have hSw:=hSw.ext he9
   by_cases he:(entG (l.drop (qf l+p)) true (⟨#[]⟩:ByteArray).data.toList).2.2=0
   case neg=>
    rw [entR,if_neg he];obtain ⟨e,ee⟩:∃ e,e=(entG (l.drop (qf l+p)) true (⟨#[]⟩:ByteArray).data.toList).2.2:=⟨_,rfl⟩
    rw [← ee] at he ⊢;(conv=>whnf);refine zY (fun _=>?_);(conv=>whnf);refine zS hm 2 ?_;clear hm;intro wa hm;(conv=>whnf);refine qa (R:=fun v w'=>DvR l w.heap.size v w'∧Ext w w') ?_;(conv=>whnf);refine zL hm 2 ?_;(conv=>whnf);exact ⟨.inl ⟨_,_,by omega,by omega,by omega,rfl⟩,hm.ext⟩
   have hst:=hO.step (first:=true) (by omega) (decide_eq_true (by omega)).symm hpp he;have hle2:=hst.st.le;have hsz:=hst.size;rw [entR,if_pos he];obtain ⟨X,eX⟩:∃ X:ByteArray,X=⟨(entG (l.drop (qf l+p)) true (⟨#[]⟩:ByteArray).data.toList).1.toArray⟩:=⟨_,rfl⟩
   obtain ⟨y,ey⟩:∃ y,y=(entG (l.drop (qf l+p)) true (⟨#[]⟩:ByteArray).data.toList).2.1:=⟨_,rfl⟩
   rw [← eX,← ey] at hst;rw [← ey] at hle2;rw [← eX] at hsz;rw [← eX,← ey];clear he eX ey;(conv=>whnf);(iterate 2 (refine zN (fun _=>?_);(conv=>whnf)));(iterate 4 (refine zU ?_;(conv=>whnf)));refine zP ?_;refine zT ?_;(conv=>whnf);(iterate 7 (refine zU ?_;(conv=>whnf)));refine NewV.rw hR ?_;intro nb wn hRn;(conv=>whnf);refine AppV.one qm6 strI strZ (by kernel_rfl) rfl (by decide +kernel) hRn rfl (by omega) ?_;intro B' d' wo hRo;(conv=>whnf);refine zA ?_;(conv=>whnf);refine ⟨(i+1,ts++[X],X,p+y,B',d'),⟨rfl,rfl,rfl,rfl,rfl,(by show Value.int .i64 ((qf l+p+y:Nat):Int)=Value.int .i64 ((qf l+(p+y):Nat):Int);rw [Nat.add_assoc]),rfl,trivial⟩,⟨by simp only;omega,hst,by simp only [List.map_append,List.map_cons,List.map_nil];exact hRo⟩,by simp only;omega⟩
  ·by_cases hi16:i%16=0
   ·have ed:decide (((i:Nat):Int)%16=0)=true:=decide_eq_true (by omega);rw [ed];clear ed;have hm:=hm.drew;have hR:=V.Rw.drew hR;have hSw:=hSw.ext (Ext.refl w8).drew;have hXw:=hXw.ext (Ext.refl w8).drew;refine DrawV.quiet (by kernel_rfl) (by kernel_rfl) ?_;(conv=>whnf);(iterate 2 (refine zW ?_;(conv=>whnf)));(iterate 2 (refine zT ?_;(conv=>whnf);refine zW ?_;(conv=>whnf)));refine zT ?_;(conv=>whnf);refine zB ?_;(conv=>whnf);refine zW ?_;(conv=>whnf);refine zT ?_;(conv=>whnf);rw [show ((i:Nat):Int)/16=((i/16:Nat):Int) by omega];obtain ⟨pl,epl⟩:∃ pl,pl=xs.getD (i/16) 0:=⟨_,rfl⟩
    have hpl:qad l (i/16)=pl:=by rw [epl,hXv _ (by omega)];rfl
    refine ⟨.int .u64 (pl:Nat),by rw [epl];exact qg9 xs Q k1 c1 (i/16) _ hXw hXl,?_⟩;conv=>whnf
    (repeat' (first|(refine zA ?_;(conv=>whnf))|((with_reducible refine zT ?_);(conv=>whnf))|((with_reducible refine zC (fun _=>?_) (fun _=>?_))<;>first|(exfalso;omega)|(conv=>whnf))|(refine Wit.conv ⟨by omega,by omega⟩ ?_;(conv=>whnf))|((with_reducible refine zW ?_);(conv=>whnf))|(refine LoadV.mem (i:=1) (by assumption) rfl rfl ?_;(conv=>whnf))))
    ·refine zS hm 2 ?_;clear hm;intro wa hm;(conv=>whnf);refine qa (R:=fun v w'=>DvR l w.heap.size v w'∧Ext w w') ?_;(conv=>whnf);refine zL hm 2 ?_;(conv=>whnf);exact ⟨.inl ⟨_,_,by decide,by omega,by omega,rfl⟩,hm.ext⟩
    have hpp:i%16=0→qad l (i/16)=p:=fun _=>(by omega)
    have hT:SlAt V.encS 1 w8.drew B ts:=V.Rw.slAt (f:=Value.string) (fun _=>rfl) hR hO.len;have hlst:ts[i-1]'(by have:=hO.len;omega)=last:=by
     have h1:=hO.lst (i-1) (by omega);rw [List.getElem?_eq_getElem (by have:=hO.len;omega)] at h1;exact Option.some.inj h1
    refine ElemV.sl hT hO.len (i-1) (by omega) (by omega) ?_;intro eb eo hcell;rw [hlst] at hcell;(conv=>whnf);refine LoadV.cell0 hcell ?_;(conv=>whnf);refine CallV.of (qey l A c (qf l+p) true last w8.drew hSw hc hl (by omega) hlast) ?_;rintro r w9 ⟨rfl,he9⟩;have hm:=hm.call he9;have hR:=hR.call he9;have hSw:=hSw.ext he9
    by_cases he:(entG (l.drop (qf l+p)) true (last:ByteArray).data.toList).2.2=0
    case neg=>
     rw [entR,if_neg he];obtain ⟨e,ee⟩:∃ e,e=(entG (l.drop (qf l+p)) true (last:ByteArray).data.toList).2.2:=⟨_,rfl⟩
     rw [← ee] at he ⊢;(conv=>whnf);refine zY (fun _=>?_);(conv=>whnf);refine zS hm 2 ?_;clear hm;intro wa hm;(conv=>whnf);refine qa (R:=fun v w'=>DvR l w.heap.size v w'∧Ext w w') ?_;(conv=>whnf);refine zL hm 2 ?_;(conv=>whnf);exact ⟨.inl ⟨_,_,by omega,by omega,by omega,rfl⟩,hm.ext⟩
    have hst:=hO.step (first:=true) (by omega) (decide_eq_true (by omega)).symm hpp he;have hle2:=hst.st.le;have hsz:=hst.size;rw [entR,if_pos he];obtain ⟨X,eX⟩:∃ X:ByteArray,X=⟨(entG (l.drop (qf l+p)) true (last:ByteArray).data.toList).1.toArray⟩:=⟨_,rfl⟩
    obtain ⟨y,ey⟩:∃ y,y=(entG (l.drop (qf l+p)) true (last:ByteArray).data.toList).2.1:=⟨_,rfl⟩
    rw [← eX,← ey] at hst;rw [← ey] at hle2;rw [← eX] at hsz;rw [← eX,← ey];clear he eX ey;(conv=>whnf);refine zN (fun _=>?_);(conv=>whnf);refine zY (fun _=>?_);(conv=>whnf);(iterate 3 (refine zT ?_;(conv=>whnf)));generalize (slt X last||seq X last)=z;cases z
    case true=>
     (conv=>whnf);refine zT ?_;(conv=>whnf);refine zS hm 2 ?_;clear hm;intro wa hm;(conv=>whnf);refine qa (R:=fun v w'=>DvR l w.heap.size v w'∧Ext w w') ?_;(conv=>whnf);refine zL hm 2 ?_;(conv=>whnf);exact ⟨.inl ⟨_,_,by decide,by omega,by omega,rfl⟩,hm.ext⟩
    (conv=>whnf);refine zU ?_;(conv=>whnf);refine zP ?_;refine zT ?_;(conv=>whnf);(iterate 7 (refine zU ?_;(conv=>whnf)));refine NewV.rw hR ?_;intro nb wn hRn;(conv=>whnf);refine AppV.one qm6 strI strZ (by kernel_rfl) rfl (by decide +kernel) hRn rfl (by omega) ?_;intro B' d' wo hRo;(conv=>whnf);refine zA ?_;(conv=>whnf);refine ⟨(i+1,ts++[X],X,p+y,B',d'),⟨rfl,rfl,rfl,rfl,rfl,(by show Value.int .i64 ((qf l+p+y:Nat):Int)=Value.int .i64 ((qf l+(p+y):Nat):Int);rw [Nat.add_assoc]),rfl,trivial⟩,⟨by simp only;omega,hst,by simp only [List.map_append,List.map_cons,List.map_nil];exact hRo⟩,by simp only;omega⟩
   ·have ed:decide (((i:Nat):Int)%16=0)=false:=decide_eq_false (by omega);rw [ed];clear ed;have hm:=hm.drew;have hR:=V.Rw.drew hR;have hSw:=hSw.ext (Ext.refl w8).drew;have hXw:=hXw.ext (Ext.refl w8).drew;refine DrawV.quiet (by kernel_rfl) (by kernel_rfl) ?_;(conv=>whnf);(iterate 2 (refine zW ?_;(conv=>whnf)));(iterate 11 (refine zU ?_;(conv=>whnf)));refine zW ?_;(conv=>whnf);refine zU ?_;(conv=>whnf);refine zY (fun _=>?_);(conv=>whnf);refine zA ?_;(conv=>whnf);have hpp:i%16=0→qad l (i/16)=p:=fun h=>absurd h (by omega)
    have hT:SlAt V.encS 1 w8.drew B ts:=V.Rw.slAt (f:=Value.string) (fun _=>rfl) hR hO.len;have hlst:ts[i-1]'(by have:=hO.len;omega)=last:=by
     have h1:=hO.lst (i-1) (by omega);rw [List.getElem?_eq_getElem (by have:=hO.len;omega)] at h1;exact Option.some.inj h1
    refine ElemV.sl hT hO.len (i-1) (by omega) (by omega) ?_;intro eb eo hcell;rw [hlst] at hcell;(conv=>whnf);refine LoadV.cell0 hcell ?_;(conv=>whnf);refine CallV.of (qey l A c (qf l+p) false last w8.drew hSw hc hl (by omega) hlast) ?_;rintro r w9 ⟨rfl,he9⟩;have hm:=hm.call he9;have hR:=hR.call he9;have hSw:=hSw.ext he9
    by_cases he:(entG (l.drop (qf l+p)) false (last:ByteArray).data.toList).2.2=0
    case neg=>
     rw [entR,if_neg he];obtain ⟨e,ee⟩:∃ e,e=(entG (l.drop (qf l+p)) false (last:ByteArray).data.toList).2.2:=⟨_,rfl⟩
     rw [← ee] at he ⊢;(conv=>whnf);refine zY (fun _=>?_);(conv=>whnf);refine zS hm 2 ?_;clear hm;intro wa hm;(conv=>whnf);refine qa (R:=fun v w'=>DvR l w.heap.size v w'∧Ext w w') ?_;(conv=>whnf);refine zL hm 2 ?_;(conv=>whnf);exact ⟨.inl ⟨_,_,by omega,by omega,by omega,rfl⟩,hm.ext⟩
    have hst:=hO.step (first:=false) (by omega) (decide_eq_false (by omega)).symm hpp he;have hfl:=qkl he;have hle2:=hst.st.le;have hsz:=hst.size;rw [entR,if_pos he];obtain ⟨X,eX⟩:∃ X:ByteArray,X=⟨(entG (l.drop (qf l+p)) false (last:ByteArray).data.toList).1.toArray⟩:=⟨_,rfl⟩
    obtain ⟨y,ey⟩:∃ y,y=(entG (l.drop (qf l+p)) false (last:ByteArray).data.toList).2.1:=⟨_,rfl⟩
    rw [← eX,← ey] at hst;rw [← ey] at hle2;rw [← eX] at hsz;rw [← eX,← ey];clear he eX ey;(conv=>whnf);refine zN (fun _=>?_);(conv=>whnf);refine zY (fun _=>?_);(conv=>whnf);(iterate 3 (refine zT ?_;(conv=>whnf)));generalize (slt X last||seq X last)=z;cases z
    case true=>
     (conv=>whnf);refine zT ?_;(conv=>whnf);refine zS hm 2 ?_;clear hm;intro wa hm;(conv=>whnf);refine qa (R:=fun v w'=>DvR l w.heap.size v w'∧Ext w w') ?_;(conv=>whnf);refine zL hm 2 ?_;(conv=>whnf);exact ⟨.inl ⟨_,_,by decide,by omega,by omega,rfl⟩,hm.ext⟩
    (conv=>whnf);refine zU ?_;(conv=>whnf);refine zP ?_;refine zU ?_;(conv=>whnf);(iterate 4 (refine zT ?_;(conv=>whnf)));have hx:(numL (l.drop (qf l+p))).1≤4194304:=by
     have hq:(last:ByteArray).data.toList.length=(last:ByteArray).size:=rfl;omega
    refine CallV.of (qs1 l A c (qf l+p) X last w9 hSw hc hl (by omega) hx (by omega)) ?_;rintro r wq ⟨⟨z,rfl⟩,heq⟩;have hm:=hm.call heq;have hR:=hR.call heq;cases z
    case false=>
     (conv=>whnf);(iterate 2 (refine zT ?_;(conv=>whnf)));refine zP ?_;refine zU ?_;(conv=>whnf);refine zS hm 2 ?_;clear hm;intro wa hm;(conv=>whnf);refine qa (R:=fun v w'=>DvR l w.heap.size v w'∧Ext w w') ?_;(conv=>whnf);refine zL hm 2 ?_;(conv=>whnf);exact ⟨.inl ⟨_,_,by decide,by omega,by omega,rfl⟩,hm.ext⟩
    (conv=>whnf);(iterate 2 (refine zT ?_;(conv=>whnf)));refine zP ?_;refine zT ?_;(conv=>whnf);refine NewV.rw hR ?_;intro nb wn hRn;(conv=>whnf);refine AppV.one qm6 strI strZ (by kernel_rfl) rfl (by decide +kernel) hRn rfl (by omega) ?_;intro B' d' wo hRo;(conv=>whnf);refine zA ?_;(conv=>whnf);refine ⟨(i+1,ts++[X],X,p+y,B',d'),⟨rfl,rfl,rfl,rfl,rfl,(by show Value.int .i64 ((qf l+p+y:Nat):Int)=Value.int .i64 ((qf l+(p+y):Nat):Int);rw [Nat.add_assoc]),rfl,trivial⟩,⟨by simp only;omega,hst,by simp only [List.map_append,List.map_cons,List.map_nil];exact hRo⟩,by simp only;omega⟩
 ·refine zS hm 2 ?_;clear hm;intro wa hm;(conv=>whnf);refine qa (R:=fun v w'=>DvR l w.heap.size v w'∧Ext w w') ?_;(conv=>whnf);refine zL hm 2 ?_;(conv=>whnf);exact ⟨.inl ⟨_,_,by decide,by omega,by omega,rfl⟩,hm.ext⟩
 obtain rfl:i=dN l:=by omega
 refine StoreA.same (hm.get (L:=_) (by simp):w8.heap[r3]?=some (.cells #[.int .i64 0,.int .i64 0] 198 (0,0))) rfl (by decide) ?_;intro w11 he11;(conv=>whnf);refine qa (R:=fun v w'=>DvR l w.heap.size v w'∧Ext w w') ?_;(conv=>whnf);refine LoadA.mem (hm.call he11) (i:=2) rfl rfl ?_;(conv=>whnf);exact ⟨.inr ⟨hE,ts,hO.get,hO.len,B,cc,rfl,qbz (qk6 hR.own hmz) he11⟩,hm.ext.trans he11⟩
open Go.RowKit V
def escL:List UInt8→List UInt8
 | []=>[]
 | c::r=>if c=0 then 0::1::escL r else c::escL r
theorem qc0 (r:List UInt8):escL (0::r)=0::1::escL r:=by rw [escL,if_pos rfl]
theorem qcg {c:UInt8} (r:List UInt8) (h:c≠0):escL (c::r)=c::escL r:=by rw [escL,if_neg h]
theorem qpa (l:List UInt8):(escL l).length≤2*l.length:=by
 induction l with
 | nil=>exact Nat.le_refl _
 | cons c r ih=>
  rw [escL]
  split<;>simp only [List.length_cons]<;>omega
theorem qye (l:List UInt8):l.length≤(escL l).length:=by
 induction l with
 | nil=>exact Nat.le_refl _
 | cons c r ih=>
  rw [escL]
  split<;>simp only [List.length_cons]<;>omega
section
variable {old new:List UInt8}
theorem qei {s:List UInt8} (ho:(old==new)=false) (h:Lib.index s old=-1):Lib.replaceAll s old new=s:=by
 unfold Lib.replaceAll Lib.replace;rw [ho];simp only [Bool.false_eq_true,if_false,Lib.replaceNum,Int.reduceNeg,Int.reduceLT,true_or,if_true,Lib.count_miss h,Lib.replaceK]
theorem qfu {s:List UInt8} {i:Nat} (ho:(old==new)=false) (hn:old≠[]) (h:Lib.index s old=i):Lib.replaceAll s old new=s.take i++new++Lib.replaceAll (s.drop (i+old.length)) old new:=by
 have hc:=Lib.count_hit hn h;unfold Lib.replaceAll Lib.replace;rw [ho];simp only [Bool.false_eq_true,if_false,Lib.replaceNum,Int.reduceNeg,Int.reduceLT,true_or,if_true];rw [hc,Nat.add_comm 1,Lib.replaceK_hit _ _ _ _ i h]
theorem qub {s:List UInt8} (ho:(old==new)=false) (hn:old≠[]) (h:old.isPrefixOf s=true):Lib.replaceAll s old new=new++Lib.replaceAll (s.drop old.length) old new:=by
 have hi:Lib.index s old=((0:Nat):Int):=Lib.index_first (Nat.zero_le _) (by simpa [Lib.occAt] using h) (fun j hj=>by omega);rw [qfu ho hn hi];simp
theorem quc (ho:(old==new)=false) (hn:old≠[]):Lib.replaceAll [] old new=[]:=qei ho (by cases old with|nil=>exact absurd rfl hn|cons _ _=>rfl)
theorem qps {c:UInt8} {r:List UInt8} (ho:(old==new)=false) (hn:old≠[]) (h:old.isPrefixOf (c::r)=false):Lib.replaceAll (c::r) old new=c::Lib.replaceAll r old new:=by
 have hix:Lib.index (c::r) old=if Lib.index r old==-1 then -1 else Lib.index r old+1:=by rw [Lib.index,h];simp
 by_cases hm:Lib.index r old=-1
 ·rw [qei ho hm,qei ho (by rw [hix,hm];rfl)]
 ·obtain ⟨i,hi⟩:∃ i:Nat,Lib.index r old=i:=⟨(Lib.index r old).toNat,by have:=Lib.index_ge r old;omega⟩
  have hi':Lib.index (c::r) old=((i+1:Nat):Int):=by
   rw [hix,hi];have:((i:Int)==-1)=false:=by rw [beq_eq_false_iff_ne];omega
   rw [this];simp
  rw [qfu ho hn hi,qfu ho hn hi'];have e:i+1+old.length=i+old.length+1:=by omega
  rw [e];simp
end
theorem qy6 (l:List UInt8):Lib.replaceAll l [0] [0,1]=escL l:=by
 induction l with
 | nil=>exact quc (by decide) (by simp)
 | cons c r ih=>
  by_cases h:c=0
  ·subst h;rw [qub (by decide) (by simp) (by rfl),qc0];simp [ih]
  ·rw [qps (by decide) (by simp) (by simp [List.isPrefixOf,Ne.symm h]),qcg _ h,ih]
theorem qio (l:List UInt8):Lib.replaceAll (escL l) [0,1] [0]=l:=by
 induction l with
 | nil=>exact quc (by decide) (by simp)
 | cons c r ih=>
  by_cases h:c=0
  ·subst h;rw [qc0,qub (by decide) (by simp) (by rfl)];simp [ih]
  ·rw [qcg _ h,qps (by decide) (by simp) (by simp [List.isPrefixOf,Ne.symm h]),ih]
theorem qso {s sep:List UInt8} {i:Nat} (hi:i≤s.length) (h:Lib.occAt s sep i=true) (hn:∀ j,j<i→Lib.occAt s sep j=false):Lib.cut s sep=(s.take i,s.drop (i+sep.length),true):=by
 rw [Lib.cut,Lib.index_first hi h hn,if_pos (by omega)];simp
theorem qtx {a b:List UInt8} {sep:List UInt8}:Lib.occAt (a++(sep++b)) sep a.length=true:=by
 unfold Lib.occAt;rw [List.drop_left];exact List.isPrefixOf_iff_prefix.2 (List.prefix_append _ _)
theorem qyf (l b:List UInt8):∀ j,j<(escL l).length→Lib.occAt (escL l++([0,0]++b)) [0,0] j=false:=by
 induction l with
 | nil=>intro j hj;simp [escL] at hj
 | cons c r ih=>
  intro j hj
  by_cases h:c=0
  ·subst h;rw [qc0] at hj ⊢
   match j with
   | 0=>rfl
   | 1=>rfl
   | j+2=>exact ih j (by simpa using hj)
  ·rw [qcg _ h] at hj ⊢
   match j with
   | 0=>simp [Lib.occAt,List.isPrefixOf,Ne.symm h]
   | j+1=>exact ih j (by simpa using hj)
theorem qne (l b:List UInt8):Lib.cut (escL l++([0,0]++b)) [0,0]=(escL l,b,true):=by
 rw [qso (i:=(escL l).length) (by simp) qtx (qyf l b)];have e:escL l++([0,0]++b)=(escL l++[0,0])++b:=by rw [List.append_assoc]
 rw [List.take_left,e];have e2:(escL l).length+([0,0]:List UInt8).length=(escL l++[0,0]).length:=by simp
 rw [e2,List.drop_left]
theorem qkg (a b:List UInt8) (h:∀ c∈a,c≠0):Lib.cut (a++([0]++b)) [0]=(a,b,true):=by
 rw [qso (i:=a.length) (by simp) qtx (fun j hj=>by
  unfold Lib.occAt;rw [List.drop_append_of_le_length (by omega),List.drop_eq_getElem_cons hj,List.cons_append,List.isPrefixOf,beq_eq_false_iff_ne.2 (Ne.symm (h _ (List.getElem_mem hj)))];rfl)]
 have e:a++([0]++b)=(a++[0])++b:=by rw [List.append_assoc]
 rw [List.take_left,e];have e2:a.length+([0]:List UInt8).length=(a++[0]).length:=by simp
 rw [e2,List.drop_left]
def qbh (t:TM):List UInt8:=if t.kind=3 then escL t.text.data.toList++([0,0]++(t.type.data.toList++([0]++t.lang.data.toList))) else t.text.data.toList
structure ReadsAs (kind:Int) (s:List UInt8) (t:TM):Prop where
 kind:t.kind=kind
 ok:qa7 t=0
 entry:qbh t=s
theorem qth {s:ByteArray} (h:iriE s=0):∀ c∈s.data.toList,c≠0:=by
 rintro c hc rfl;have hr:refE s=0:=by
  by_cases h1:refE s=0
  ·exact h1
  ·rw [iriE,if_pos h1] at h;exact h
 unfold refE at hr
 split at hr
 ·cases hr
 split at hr
 ·cases hr
 split at hr
 ·cases hr
 rename_i h3
 exact h3 (List.any_eq_true.2 ⟨0,hc,by simp [barB]⟩)
theorem ReadsAs.plain {kind:Int} {s:List UInt8} {t:TM} (h:ReadsAs kind s t) (hk:kind≠3):t.text.data.toList=s∧t.type=⟨#[]⟩∧t.lang=⟨#[]⟩:=by
 have hk':t.kind≠3:=by rw [h.kind];exact hk
 have h1:=h.ok;have h2:=h.entry;rw [qbh,if_neg hk'] at h2;rw [qa7] at h1
 split at h1
 ·split at h1
  ·cases h1
  ·rename_i h3
   refine ⟨h2,?_,?_⟩
   ·have:¬ seq t.type ⟨#[]⟩=false:=fun e=>h3 (.inl e)
    exact q7.1 (by simpa using this)
   ·have:¬ seq t.lang ⟨#[]⟩=false:=fun e=>h3 (.inr e)
    exact q7.1 (by simpa using this)
 ·cases h1
theorem ReadsAs.lit {s:List UInt8} {t:TM} (h:ReadsAs 3 s t):s=escL t.text.data.toList++([0,0]++(t.type.data.toList++([0]++t.lang.data.toList)))∧∀ c∈t.type.data.toList,c≠0:=by
 have h1:=h.ok;have h2:=h.entry;rw [qbh,if_pos h.kind] at h2;refine ⟨h2.symm,qth ?_⟩;rw [qa7,if_neg (by rw [h.kind];decide),if_pos h.kind,litE] at h1
 split at h1
 ·cases h1
 split at h1
 ·cases h1
 split at h1
 ·rename_i h3;exact absurd h1 h3
 ·rename_i h3;omega
theorem qvy {a b:List UInt8} (h:escL a=escL b):a=b:=by
 rw [← qio a,← qio b,h]
theorem qcz {a b:ByteArray} (h:a.data.toList=b.data.toList):a=b:=by
 cases a;cases b;simp only [ByteArray.mk.injEq];exact Array.toList_inj.1 h
theorem ReadsAs.unique {kind:Int} {s:List UInt8} {t u:TM} (h:ReadsAs kind s t) (g:ReadsAs kind s u):t=u:=by
 obtain ⟨tk,tt,ty,tl⟩:=t;obtain ⟨uk,ut,uy,ul⟩:=u;have e1:tk=uk:=h.kind.trans g.kind.symm;subst e1
 by_cases hk:kind=3
 ·subst hk;obtain ⟨h1,h2⟩:=h.lit;obtain ⟨g1,g2⟩:=g.lit;dsimp only at h1 h2 g1 g2;have hc:=qne tt.data.toList (ty.data.toList++([0]++tl.data.toList));have gc:=qne ut.data.toList (uy.data.toList++([0]++ul.data.toList));rw [← h1,g1,gc] at hc;simp only [Prod.mk.injEq,and_true] at hc;obtain ⟨q1,q2⟩:=hc;have hz:=qkg ty.data.toList tl.data.toList h2;rw [← q2,qkg uy.data.toList ul.data.toList g2] at hz;simp only [Prod.mk.injEq,and_true] at hz;rw [qcz (qvy q1.symm),qcz hz.1.symm,qcz hz.2.symm]
 ·obtain ⟨h1,h2,h3⟩:=h.plain hk;obtain ⟨g1,g2,g3⟩:=g.plain hk;dsimp only at h1 h2 h3 g1 g2 g3;rw [qcz (h1.trans g1.symm),h2,h3,g2,g3]
open Classical in
noncomputable def qgr (kind:Int) (s:List UInt8):Option TM:=if h:∃ t,ReadsAs kind s t then some h.choose else none
theorem qjy {kind:Int} {s:List UInt8} {t:TM} (h:ReadsAs kind s t):qgr kind s=some t:=by
 have hx:∃ t,ReadsAs kind s t:=⟨t,h⟩
 rw [qgr,dif_pos hx,ReadsAs.unique hx.choose_spec h]
theorem qri {kind:Int} {s:List UInt8} (h:∀ t,¬ ReadsAs kind s t):qgr kind s=none:=by
 rw [qgr,dif_neg (fun ⟨t,ht⟩=>h t ht)]
theorem qn0 {kind:Int} {s:List UInt8} {t:TM} (h:qgr kind s=some t):ReadsAs kind s t:=by
 unfold qgr at h
 split at h
 ·rename_i hx
  cases h;exact hx.choose_spec
 ·cases h
theorem ReadsAs.size {kind:Int} {s:List UInt8} {t:TM} (h:ReadsAs kind s t):t.text.size≤s.length∧t.type.size≤s.length∧t.lang.size≤s.length:=by
 by_cases hk:kind=3
 ·subst hk;obtain ⟨h1,_⟩:=h.lit;have:=qye t.text.data.toList;have e1:t.text.data.toList.length=t.text.size:=rfl;have e2:t.type.data.toList.length=t.type.size:=rfl;have e3:t.lang.data.toList.length=t.lang.size:=rfl;rw [h1];simp only [List.length_append,List.length_cons,List.length_nil];omega
 ·obtain ⟨h1,h2,h3⟩:=h.plain hk;rw [← h1,h2,h3];exact ⟨Nat.le_refl _,Nat.zero_le _,Nat.zero_le _⟩
theorem qwq {kind:Int} {s:List UInt8} {t:TM} (h:qgr kind s=some t) (hs:s.length≤262144) (hk:InR .i64 kind):TermOk t:=by
 have hr:=qn0 h;obtain ⟨h1,h2,h3⟩:=hr.size;exact ⟨by rw [hr.kind];exact hk,by omega,by omega,by omega⟩
end Go.Proofs.YtajgbepghniciaaGreatDoor
