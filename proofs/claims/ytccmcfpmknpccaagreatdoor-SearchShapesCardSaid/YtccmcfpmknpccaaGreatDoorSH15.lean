/- Lemmas and contracts of functions on the way to the law's card (part 15 of 16). -/
import Derived.Test.YtccmcfpmknpccaaGreatDoorSH14
namespace Go.Proofs.YtccmcfpmknpccaaGreatDoor
set_option maxHeartbeats 8000000
open Go.RowKit V
set_option maxRecDepth 100000
def okI (t:TM):Bool:=decide (t.kind=1)&&(seq t.type ⟨#[]⟩&&(seq t.lang ⟨#[]⟩&&decide (iriE t.text=0)))
theorem q8s {t:TM} (h:okI t=true):t.kind=1∧qa5 t=0:=by
 simp only [okI,Bool.and_eq_true,decide_eq_true_eq] at h;obtain ⟨h1,h2,h3,h4⟩:=h;refine ⟨h1,?_⟩;rw [qa5,if_pos (.inl h1),if_neg (by rw [h2,h3];simp),if_pos h1,h4]
def okQd (q:Q4):Bool:=okI q.s&&(okI q.p&&(okI q.o&&qwm q.g))
theorem q10 {t:TM} (h:qwm t=true):t.kind=0:=by
 have e:qaj t ⟨0,⟨#[]⟩,⟨#[]⟩,⟨#[]⟩⟩=true:=h;rw [qu.1 e]
theorem qace {q:Q4} (h:okQd q=true):qbx q=0:=by
 simp only [okQd,Bool.and_eq_true] at h;obtain ⟨h1,h2,h3,h4⟩:=h;obtain ⟨k1,e1⟩:=q8s h1;obtain ⟨k2,e2⟩:=q8s h2;obtain ⟨k3,e3⟩:=q8s h3;have q0:qE 0 q.s=0:=by rw [qE,if_neg (by rw [canB,if_pos rfl,k1];decide),if_neg Oo,e1]
 have q1:qE 1 q.p=0:=by rw [qE,if_neg (by rw [canB,if_neg Od,if_pos rfl,k2];decide),if_neg Oo,e2]
 have q2:qE 2 q.o=0:=by rw [qE,if_neg (by rw [canB,if_neg Od,if_neg Od,if_pos rfl,k3];decide),if_neg Oo,e3]
 have q3:qE 3 q.g=0:=by
  rw [qE,if_neg (by rw [canB,if_neg Od,if_neg Od,if_neg Od,h4];simp),if_pos ⟨rfl,q10 h4⟩]
 rw [q4e,q0,q1,q2,q3];rfl
def okQs (qs:List Q4):Bool:=qs.all okQd&&((List.range (qs.length-1)).all fun i=>decide (cmpQ (qs.getD i zQ) (qs.getD (i+1) zQ)<0))
theorem qacf {qs:List Q4} (hl:qs.length≤1048576) (h:okQs qs=true):valE qs=0:=by
 simp only [okQs,Bool.and_eq_true,List.all_eq_true,decide_eq_true_eq,List.mem_range] at h;obtain ⟨h1,h2⟩:=h;have hf:qcf (qs.map qbx)=0:=by
  clear h2 hl
  induction qs with
  | nil=>rfl
  | cons q qs ih=>
   rw [List.map_cons,qcf,if_neg (fun g=>g (qace (h1 q mh)))];exact ih fun x hx=>h1 x (zmc hx)
 rw [valE,if_neg Oo,if_neg (fun g=>g hf),if_pos];intro i hi a b ha hb;have:=h2 i Oo;rw [List.getD_eq_getElem?_getD,List.getD_eq_getElem?_getD,ha,hb] at this;exact qcl.1 this
def okL (L:List LB):Bool:=decide (L.length≤4194304)&&(L.all (fun t=>decide (t.length≤262144))&&((List.range (L.length-1)).all (fun i => !leL (tx L (i+1)) (tx L i))&&decide ((qal L).length≤67108864)))
theorem q8t {L:List LB} (h:okL L=true):dicE L=0:=by
 simp only [okL,Bool.and_eq_true,List.all_eq_true,decide_eq_true_eq,List.mem_range,Bool.not_eq_true'] at h;obtain ⟨h1,h2,h3,h4⟩:=h;rw [dicE,if_neg,if_neg,if_neg Oo]
 ·rintro ⟨i,hi,e⟩;have:=h3 i Oo;rw [e] at this;cases this
 ·rintro (g|⟨i,g⟩)
  ·omega
  ·by_cases hi:i<L.length
   ·have:=h2 (tx L i) (by rw [tx,List.getD_eq_getElem?_getD,zge hi];exact List.getElem_mem hi);omega
   ·rw [tx,List.getD_eq_getElem?_getD,List.getElem?_eq_none Oo] at g;simp at g
theorem q7t {qs:List Q4} {most:Int} (hl:qs.length≤1048576) (h:okQs qs=true) (h0:okL (secE (tmsQ qs) 0)=true) (h1:okL (secE (tmsQ qs) 1)=true) (h2:okL (secE (tmsQ qs) 2)=true) (hs:(pkB qs).length≤67108864) (hm:((pkB qs).length:Int)≤most):encE qs most=0:=by
 refine qpz (qacf hl h) (qub fun k hk=>?_) Oo
 match k,hk with
 | 0,_=>exact q8t h0
 | 1,_=>exact q8t h1
 | 2,_=>exact q8t h2
def tmI (l:LB):TM:=⟨1,⟨l.toArray⟩,⟨#[]⟩,⟨#[]⟩⟩
def lW20:List Q4:=[⟨tmI [97,58,115],tmI [97,58,112],tmI [97,58,111],zTM⟩,⟨tmI [97,58,115],tmI [97,58,113],tmI [97,58,111],zTM⟩,⟨tmI [97,58,116],tmI [97,58,112],tmI [97,58,111],zTM⟩]
theorem q3h:encE lW20 67108864=0:=
 have hs:decide ((pkB lW20).length≤67108864)=true:=by kernel_rfl
 q7t Od Jk Jk Jk Jk (of_decide_eq_true hs) (by have:=of_decide_eq_true hs;omega)
def qdg:TM:=⟨4,⟨#[]⟩,⟨#[]⟩,⟨#[]⟩⟩
def allQ:Q4:=⟨qdg,qdg,qdg,qdg⟩
theorem q3g:qaa allQ lW20=[0,1,2]:=by kernel_rfl
theorem qaby:qaa ⟨qdg,tmI [97,58,112],qdg,qdg⟩ lW20=[0,2]:=by kernel_rfl
theorem qsw {s:ByteArray} (h:iriE s=0):s.size≤65536:=by
 grind [iriE,refE]
theorem qxw {t:TM} (h:qa5 t=0):(qae t).length≤262144:=by
 have hd:∀ s:ByteArray,s.data.toList.length=s.size:=fun s=>rfl
 unfold qa5 at h
 by_cases h12:t.kind=1∨t.kind=2
 ·grind [qae,qsw]
 ·rw [if_neg h12] at h
  by_cases h3:t.kind=3
  case neg=>simp_all
  rw [if_pos h3] at h;have he:(qae t).length=(escL t.text.data.toList).length+(2+(t.type.size+(1+t.lang.size))):=by
   grind [qae]
  have hes:=qsq t.text.data.toList;rw [hd] at hes;unfold litE at h
  by_cases c1:65536<t.text.size
  ·simp_all
  rw [if_neg c1] at h
  by_cases c2:scal t.text.data.toList=none
  ·simp_all
  rw [if_neg c2] at h
  by_cases c3:iriE t.type≠0
  ·simp_all
  rw [if_neg c3] at h;have hty:=qsw (s:=t.type) Oo
  by_cases c4:seq t.lang ⟨#[]⟩=false∧65536<t.lang.size
  ·simp_all
  rw [if_neg c4] at h
  by_cases c5:seq t.lang ⟨#[]⟩=false∧(tagE (qcq t.lang)≠0∨seq (lowS t.lang) t.lang=false)
  ·simp_all
  rw [if_neg c5] at h
  by_cases c6:(!seq t.lang ⟨#[]⟩)≠seq t.type qhz
  ·simp_all
  have c6:(!seq t.lang ⟨#[]⟩)=seq t.type qhz:=Classical.not_not.1 c6;cases hl:seq t.lang ⟨#[]⟩
  ·rw [hl] at c6;have e:=qa9.1 c6.symm;have:t.type.size=53:=by rw [e];rfl
   grind
  grind [qa9]
section
variable {T:List TM} (hr:RiseT T) (hn:T.length≤4194304) (ht:∀ t∈T,qa5 t=0)
include hr hn ht
theorem q2t (k:Nat):dicE (secE T k)=0∨dicE (secE T k)=1:=by
 have hm:∀ i,i<(secE T k).length→∃ t,(ofK T k)[i]?=some t∧tx (secE T k) i=qae t∧t∈T∧t.kind=((k+1:Nat):Int):=fun i hi=>by
  rw [qbr,List.length_map] at hi;have h1:(ofK T k)[i]?=some (ofK T k)[i]:=zge hi;refine ⟨_,h1,?_,(List.mem_filter.1 (List.getElem_mem hi)).1,qf3 (List.getElem_mem hi)⟩
  grind [tx,qbr]
 have hl:(secE T k).length≤4194304:=by
  rw [qbr,List.length_map];exact Nat.le_trans (List.length_filter_le _ _) hn
 have h2:∀ i,¬ 262144<(tx (secE T k) i).length:=fun i=>by
  grind [qxw,tx]
 have h3:∀ i,i+1<(secE T k).length→leL (tx (secE T k) (i+1)) (tx (secE T k) i)=false:=fun i hi=>by
  obtain ⟨a,a1,a2,a3,a4⟩:=hm i Oo;obtain ⟨b,b1,b2,b3,b4⟩:=hm (i+1) hi;have hlt:=qlu (ht a a3) (ht b b3) (by rw [a4,b4]) ((qig hr k).at (Nat.lt_succ_self i) a1 b1)
  grind [leL,qc6,qa9]
 by_cases h4:67108864<(qal (secE T k)).length
 ·grind [qxl]
 ·exact .inl (q7r ⟨hl,fun i=>by simp_all,h3,by omega⟩)
theorem q1s:qc7 T=0∨qc7 T=1:=by
 grind [q2t,qc7]
end
theorem q21 {qs:List Q4} {most:Int} (h:valE qs=0) (hn:(tmsQ qs).length≤4194304):encE qs most=0∨encE qs most=1:=by
 grind [q1s,qeb,qdd,qic,qpz,qso]
def tmN (s:ByteArray):TM:=⟨1,s,⟨#[]⟩,⟨#[]⟩⟩
theorem qjb (s:ByteArray) (w:World):Gv Tryz.prog 53 [.string s] w fun r w'=>r=qt (tmN s)∧Ext w w':=by
 refine ze Tryz.func53 Tryz.ntmps53 ?_;refine znm (Mem.nil w) fun b w1 hm=>zw ?_;refine zS hm 0 fun w2 hm=>zw ?_;refine qj (R:=fun r w'=>r=qt (tmN s)∧Ext w w') (zw ?_);refine zl hm 0 ?_;exact ⟨rfl,hm.ext⟩
theorem qbo (w:World):Gv Tryz.prog 71 [] w fun r w'=>r=qt qdg∧Ext w w':=by
 refine ze Tryz.func71 Tryz.ntmps71 ?_;refine znm (Mem.nil w) fun b w1 hm=>zw ?_;refine zS hm 0 fun w2 hm=>zw ?_;refine qj (R:=fun r w'=>r=qt qdg∧Ext w w') (zw ?_);refine zl hm 0 ?_;exact ⟨rfl,hm.ext⟩
theorem qir (w:World):Gv Tryz.prog 54 [] w fun r w'=>r=qq allQ∧Ext w w':=by
 refine ze Tryz.func54 Tryz.ntmps54 ?_;refine znm (Mem.nil w) fun b w1 hm=>zw ?_;refine zcv (qbo w1) ?_;rintro r w2 ⟨rfl,he⟩;replace hm:=hm.call he;(conv=>whnf);refine zcv (qbo w2) ?_;rintro r w3 ⟨rfl,he⟩;replace hm:=hm.call he;(conv=>whnf);refine zcv (qbo w3) ?_;rintro r w4 ⟨rfl,he⟩;replace hm:=hm.call he;(conv=>whnf);refine zcv (qbo w4) ?_;rintro r w5 ⟨rfl,he⟩;replace hm:=hm.call he;(conv=>whnf);refine zS hm 0 fun w6 hm=>zw ?_;refine qj (R:=fun r w'=>r=qq allQ∧Ext w w') (zw ?_);refine zl hm 0 ?_;exact ⟨rfl,hm.ext⟩
theorem qv4 {T:List TM} {qs:List Q4} (h:EncOk T qs) (l:LB) (el:encP T qs=l) (A:oA) (c:Nat) (w:World) (hS:SlAt encB 1 w A l) (hc:l.length≤c) (hl:l.length≤140737488355328) (hT:CellsAt w 3 0 qg7) :
  Gv Tryz.prog 11 [.slice A l.length c] w fun v w'=>∃ x pb vb tb,v=.tuple #[pp x,.nilIface]∧IdxE w' x pb vb tb l∧Ext w w':=by
 have hpk:=h.packE;have hpo:=h.poE;rw [el] at hpk hpo;refine ze Tryz.func11 Tryz.ntmps11 ?_;refine zcv (q4d l A c w hS hc hl hT hpk (fun k h1 h2=>(qj1 (qtk (by rw [hpo])).2.2.2.2.1 k h1 Oo).tvec)) ?_;rintro v w1 ⟨⟨b,rfl,vb,tb,hb1,hb2,hb3⟩,he1⟩;refine zu ?_;refine znm (Mem.nil w1) ?_;intro x w2 hm;have hx:=hm.get mh;exact ⟨x,b,vb,tb,rfl,⟨by rw [qa hx];rfl,hm.ext.get hb1,hb2.ext hm.ext,hb3.ext hm.ext⟩,he1.trans hm.ext⟩
def IxR (qs:List Q4) (r:Value) (w:World):Prop:=
 (encE qs 67108864≠0∧r=.tuple #[.pointer none,.bool true])∨(EncOk (tmsQ qs) qs∧∃ x pb vb tb,r=.tuple #[pp x,.bool true]∧IdxE w x pb vb tb (encP (tmsQ qs) qs))
theorem qfx (qs:List Q4) (A:oA) (n c:Nat) (w:World) (hS:SlAt qd 16 w A qs) (hn:qs.length=n) (hb:n≤140737488355328) (hq:∀ q∈qs,qak q) (hG:GlobS w) (hNib:CellsAt w 3 0 qg7) (hE:ErrTyp w) :
  Gv Tryz.prog 18 [.slice A n c] w fun r w'=>IxR qs r w'∧Ext w w':=by
 refine ze Tryz.func18 Tryz.ntmps18 ?_;refine zcv (qur qs A n c 67108864 w hS hn hb ⟨by decide,by decide⟩ hq hG.M hG.T hNib hE) ?_;rintro r w1 (⟨h0,rfl,he1⟩|⟨h0,v,rfl,hN⟩)
 ·have he:encE qs 67108864=valE qs∨valE qs=0∧encE qs 67108864=1:=by
   by_cases hv:valE qs=0
   ·exact .inr ⟨hv,(q21 hv (qm1 hv)).resolve_left h0⟩
   ·exact .inl (qsn hv)
  have hR:IxR qs (.tuple #[.pointer none,.bool true]) w1:=.inl ⟨h0,rfl⟩;obtain ⟨e,ee⟩:∃ e,e=encE qs 67108864:=⟨_,rfl⟩
  obtain ⟨f,ef⟩:∃ f,f=valE qs:=⟨_,rfl⟩
  rw [← ee] at h0 he ⊢;rw [← ef] at he;refine zu ?_;refine zcv (qpi qs A n c w1 (hS.ext he1) hn hb hq (hG.ext he1).M (hG.ext he1).T) ?_;rintro r w2 ⟨⟨i,rfl⟩,he2⟩;rw [← ef];(conv=>whnf);refine zC (fun _=>zu ?_) (fun _=>zu ?_)
  all_goals refine ⟨.inl ⟨by rw [← ee];exact h0,?_⟩,he1.trans he2⟩
  all_goals first|rfl|rw [decide_eq_true (show (e:Int)=1 by omega)]
 have hen:=q20 (qm1 (qi0 h0).1) h0;have hll:=(qi0 h0).2.2.2;have hpk:=hen.pk;obtain ⟨l,el⟩:∃ l,l=pkB qs:=⟨_,rfl⟩
 obtain ⟨B,d,rfl,hlc,hSl⟩:=hN.bs;rw [← el] at hpk hll hlc hSl ⊢;have he1:=hN.ext;refine zu ?_;refine zcv (qv4 hen l hpk B d w1 hSl hlc Oo (CellsAt.ext hNib he1)) ?_;rintro v w2 ⟨x,pb,vb,tb,rfl,hI,he2⟩;(conv=>whnf);refine zy ?_;refine zv ?_;exact ⟨.inr ⟨hen,x,pb,vb,tb,rfl,by rw [hpk];exact hI.ext xr.drew⟩,(he1.trans he2).trans xr.drew⟩
theorem q4q {α:Type} {enc:α→List Value} {size:Nat} (henc:∀ x,(enc x).length=size) {w:World} {b:Nat} {e:TypeId} {fr:Nat × Nat} {l:List α} (h:w.heap[b]?=some (.cells ((l.map enc).flatten).toArray e fr)):SlAt enc size w (some ⟨b,0,none⟩) l:=
 ⟨fun _=>⟨b,0,rfl,fun j x hx k v hv=>by
  have h7:=qbw enc size henc l j x k hx (by rw [← henc x];exact (List.getElem?_eq_some_iff.1 hv).1);rw [hv] at h7;rw [qa h,Nat.zero_add]
  simpa using h7⟩⟩
theorem qyu:∀ q∈lW20,qak q:=fun q hq=>by
 simp only [lW20,List.mem_cons,List.not_mem_nil,or_false] at hq
 rcases hq with rfl|rfl|rfl<;>intro k<;>unfold Q4.at<;>split<;>exact ⟨⟨by decide,by decide⟩,by decide,by decide,by decide⟩
theorem qpn:qak allQ:=by
 intro k;unfold allQ Q4.at
 split<;>exact ⟨⟨by decide,by decide⟩,by decide,by decide,by decide⟩
structure GlobO (w:World):Prop where
 S:GlobS w
 N:CellsAt w 3 0 qg7
 E:ErrTyp w
theorem GlobO.ext {w w':World} (h:GlobO w) (he:Ext w w'):GlobO w':=⟨h.S.ext he,CellsAt.ext h.N he,h.E.ext he⟩
def pW20:Q4:=⟨qdg,tmI [97,58,112],qdg,qdg⟩
theorem qz1:qak pW20:=by
 intro k;unfold pW20 Q4.at
 split<;>exact ⟨⟨by decide,by decide⟩,by decide,by decide,by decide⟩
theorem tW20:(tasL 0 pW20 lW20).take 9=[tmI [97,58,115],tmI [97,58,116]]:=by kernel_rfl
theorem bW20:(begL 0 ⟨#[97,58,116]⟩ allQ lW20).take 9=[2]:=by kernel_rfl
theorem qrs (w:World) (hG:GlobO w) :
  Gv Tryz.prog 17 [] w fun r w'=>r=.bool true∧Ext w w':=by
 have b48:tsz Tryz.prog 47=16:=by kernel_rfl
 have b4:tsz Tryz.prog 45=4:=by kernel_rfl
 have b17:tsz Tryz.prog 77=17:=by kernel_rfl
 refine ze Tryz.func17 Tryz.ntmps17 ?_;have he:=Ext.refl w
 iterate 9
  (refine zcv (qjb _ _) ?_;rintro r w1 ⟨rfl,e1⟩;replace he:=he.trans e1;clear e1;conv=>whnf)
 refine znm (Mem.nil _) ?_;intro lb w2 hm;replace hm:Mem w1 w2 [(lb,.cells ((lW20.map qd).flatten).toArray 47)]:=hm;have hS:=q4q (enc:=qd) qoi (hm.get mh);replace he:=he.trans hm.ext;clear hm;obtain ⟨g,off,hA,hc⟩:=hS.at_ (by simp [lW20]);cases hA;(conv=>whnf);refine zcv (qfx lW20 (some ⟨lb,0,none⟩) 3 3 w2 hS rfl Od qyu (hG.ext he).S (hG.ext he).N (hG.ext he).E) ?_;rintro r w3 ⟨⟨h0,_⟩|⟨hen,x,pb,vb,tb,rfl,hX⟩,he3⟩
 ·exact absurd q3h h0
 replace he:=he.trans he3;refine zu ?_;refine zcv (q4r _ x pb vb tb w3 hX) ?_;rintro r w4 ⟨rfl,he4⟩;replace he:=he.trans he4;replace he3:=he3.trans he4;rw [hen.n,show ((lW20.length:Nat):Int)=3 from rfl];refine zu ?_;refine ⟨⟨lb,0,1,rfl,by omega,by omega,?_⟩⟩;rw [b48];refine zu ?_;refine LoadA.cells ((hc 1 _ rfl).ext he3) rfl (zu ?_);refine zcv (qt0 _ lW20 hen x pb vb tb _ (qyu _ (zmc mh)) w4 (hX.ext he4) (hG.ext he).S) ?_;rintro r w5 ⟨⟨b,rfl,hb⟩,he5⟩;obtain rfl:b=true:=hb.2 (zmc mh);replace he:=he.trans he5;replace he3:=he3.trans he5;replace hX:=hX.ext (he4.trans he5);refine zu ?_;refine zcv (qir w5) ?_;rintro r w6 ⟨rfl,he6⟩;replace he:=he.trans he6;replace he3:=he3.trans he6;replace hX:=hX.ext he6;refine zu ?_;refine zcv (qk3 _ lW20 hen x pb vb tb allQ qpn w6 hX (hG.ext he).S) ?_;rintro r w7 ⟨rfl,he7⟩;replace he:=he.trans he7;replace he3:=he3.trans he7;replace hX:=hX.ext he7;rw [q3g,show ((([0,1,2]:List Nat).length:Nat):Int)=3 from rfl];refine zu ?_;refine zcv (qir w7) ?_;rintro r w8 ⟨rfl,he8⟩;replace he:=he.trans he8;replace he3:=he3.trans he8;replace hX:=hX.ext he8;(conv=>whnf);refine znm (Mem.nil w8) fun qb w9 hm=>zw ?_;refine StoreA.all hm (i:=0) rfl rfl (qaq allQ) fun w10 hm=>zw ?_;refine zcv (qjb _ w10) ?_;rintro r w11 ⟨rfl,e1⟩;replace hm:=hm.call e1;(conv=>whnf);refine StoreA.mem hm (i:=0) rfl Od (by simp [Value.oneCell']) ?_;intro w12 hm;replace hm:Mem w8 w12 [(qb,.cells (qd pW20).toArray 47)]:=hm;have hS3:=he3.trans hm.ext;(conv=>whnf);refine zl hm 0 ?_;refine zcv (qi8 _ lW20 hen x pb vb tb pW20 qz1 9 Od w12 (hX.ext hm.ext) ((hG.ext he).ext hm.ext).S) ?_;rintro r w13 ⟨⟨v,rfl,hM⟩,e2⟩;rw [show (qaa pW20 lW20).take 9=[0,2] by rw [show qaa pW20 lW20=[0,2] from qaby];rfl] at hM;replace hm:=hm.call e2;obtain ⟨B1,d1,rfl,_,h1⟩:=hM;rw [show (snL lW20 [0,2]).length=2 from rfl];obtain ⟨g1,o1,rfl,k1⟩:=h1.at_ (by simp [snL]);(conv=>whnf);refine zl hm 0 ?_;refine zcv (qwg _ lW20 hen x pb vb tb pW20 qz1 0 9 Od w13 (hX.ext hm.ext) ((hG.ext he).ext hm.ext).S) ?_;rintro r w14 ⟨⟨v,rfl,hM⟩,e3⟩;rw [tW20] at hM;replace hm:=hm.call e3;obtain ⟨B2,d2,rfl,_,h2⟩:=hM;rw [show [tmI [97,58,115],tmI [97,58,116]].length=2 from rfl];obtain ⟨g2,o2,rfl,k2⟩:=h2.at_ Js;(conv=>whnf);refine zcv (qir w14) ?_;rintro r w15 ⟨rfl,e4⟩;replace hm:=hm.call e4;(conv=>whnf);refine zcv (qwx _ lW20 hen x pb vb tb allQ qpn 0 ⟨#[97,58,116]⟩ 9 Od w15 (hX.ext hm.ext) ((hG.ext he).ext hm.ext).S) ?_;rintro r w16 ⟨⟨v,rfl,hM⟩,e5⟩;rw [bW20] at hM;have hme:=hm.ext.trans e5;obtain ⟨B3,d3,rfl,_,h3⟩:=hM;rw [show (snL lW20 [2]).length=1 from rfl];obtain ⟨g3,o3,rfl,k3⟩:=h3.at_ (by simp [snL]);(conv=>whnf);refine zy ?_;have hd:Ext w16 w16.drew:=xr.drew;have c1:CellsAt w16.drew g1 (o1+1*17) (snQ ((2:Int),lW20.getD 2 zQ)):=((k1 1 _ rfl).ext (((e3.trans e4).trans e5).trans hd))
 have c2:=((k2 0 _ rfl).ext ((e4.trans e5).trans hd))
 have c3:CellsAt w16.drew g3 (o3+0*17) (snQ ((2:Int),lW20.getD 2 zQ)):=((k3 0 _ rfl).ext hd)
 have c4:=((hc 2 _ rfl).ext ((he3.trans hme).trans hd))
 have c5:=((hc 0 _ rfl).ext ((he3.trans hme).trans hd))
 have c5s:CellsAt w16.drew lb (0+0*16) (encT (tmI [97,58,115])):=fun k v hv=>c5 k v (by rw [qd,List.getElem?_append_left (List.getElem?_eq_some_iff.1 hv).1];exact hv)
 refine zv ?_;refine ⟨⟨g1,o1,1,rfl,by omega,by decide,?_⟩⟩;rw [b17];refine zu ?_;refine LoadV.of (c1 0 _ rfl) (zu ?_);refine ⟨⟨g1,o1,1,rfl,by omega,by decide,?_⟩⟩;rw [b17];refine zu ?_;refine LoadA.cells (qads c1) rfl (zu ?_);refine ⟨⟨lb,0,2,rfl,by omega,by decide,?_⟩⟩;rw [b48];refine zu ?_;refine LoadA.cells c4 rfl (zu ?_);refine RunV.eqQd (a:=lW20.getD 2 zQ) (b:=lW20.getD 2 zQ) ?_;rw [show qcs (lW20.getD 2 zQ) (lW20.getD 2 zQ)=true from by kernel_rfl];refine zu ?_;refine ⟨⟨g2,o2,0,rfl,by omega,by decide,?_⟩⟩;rw [b4];refine zu ?_;refine LoadA.cells c2 rfl (zu ?_);refine ⟨⟨lb,0,0,rfl,by omega,by decide,?_⟩⟩;rw [b48];refine zu ?_;refine LoadA.cells c5s rfl (zu ?_);refine RunV.eqTerm (a:=tmI [97,58,115]) (b:=tmI [97,58,115]) (.inl rfl) ?_;rw [show qaj (tmI [97,58,115]) (tmI [97,58,115])=true from by kernel_rfl];refine zu ?_;refine ⟨⟨g3,o3,0,rfl,by omega,by decide,?_⟩⟩;rw [b17];refine zu ?_;refine LoadV.of (c3 0 _ rfl) (zu ?_);exact ⟨rfl,(he.trans hme).trans hd⟩
def putQ (p:Q4) (k:Nat) (t:TM):Q4:=match k with
 | 0=>{ p with s:=t }
 | 1=>{ p with p:=t }
 | 2=>{ p with o:=t }
 | _=>{ p with g:=t }
theorem qabm {p q:Q4} (h:fitQ p q=true) (k:Nat):fitT (p.at k) (q.at k)=true:=by
 simp only [fitQ,Bool.and_eq_true] at h;unfold Q4.at
 split<;>simp [h]
def q9g (b:Nat):Nat→Value:=fun j=>.pointer (some ⟨b,4*j,none⟩)
theorem qaco (p:Q4) (k:Nat) (t:TM) (h:k<4):(qd p).take (4*k)++encT t++(qd p).drop (4*k+4)=qd (putQ p k t):=by
 match k,h with
 | 0,_=>rfl
 | 1,_=>rfl
 | 2,_=>rfl
 | 3,_=>rfl
section
variable {p:Q4} {pl:Int} {qs:List Q4} (hk:∀ q∈qs,(q.at pl.toNat).kind≠4)
include hk
end
def shK (q:Q4) (s:Nat):Nat→Q4
 | 0=>q
 | k+1=>if s/2 ^ k%2=0 then putQ (shK q s k) k qdg else shK q s k
def shQ (q:Q4) (s:Nat):Q4:=shK q s 4
theorem q9i (p:Q4) (t:TM) {j k:Nat} (hj:j<4) (hk:k<4):(putQ p k t).at j=if j=k then t else p.at j:=by
 match j,k,hj,hk with
 | 0,0,_,_|0,1,_,_|0,2,_,_|0,3,_,_|1,0,_,_|1,1,_,_|1,2,_,_|1,3,_,_|2,0,_,_|2,1,_,_|2,2,_,_|2,3,_,_|3,0,_,_|3,1,_,_|3,2,_,_|3,3,_,_=>rfl
theorem q6n (q:Q4) (s:Nat) {j:Nat} (hj:j<4):∀ {k:Nat},k≤4→(shK q s k).at j=if j<k∧s/2 ^ j%2=0 then qdg else q.at j
 | 0,_=>by simp [shK]
 | k+1,hk=>by
  have ih:=q6n q s hj (k:=k) Oo;rw [shK]
  split
  ·rename_i h
   rw [q9i _ _ hj Oo,ih]
   by_cases e:j=k
   ·subst e;simp [h]
   ·rw [if_neg e];have:j<k+1↔j<k:=by omega
    simp [this]
  ·rename_i h
   rw [ih]
   by_cases e:j=k
   ·subst e;simp [h]
   ·have:j<k+1↔j<k:=by omega
    simp [this]
theorem q0v (q:Q4) (s:Nat) {j:Nat} (hj:j<4):(shQ q s).at j=if s/2 ^ j%2=0 then qdg else q.at j:=by
 rw [shQ,q6n q s hj znr];simp [hj]
theorem qadr {p q:Q4} (h:∀ j,j<4→p.at j=q.at j):p=q:=by
 obtain ⟨a,b,c,d⟩:=p;obtain ⟨a',b',c',d'⟩:=q;have h0:=h 0 Od;have h1:=h 1 Od;have h2:=h 2 Od;have h3:=h 3 Od;simp only [Q4.at] at h0 h1 h2 h3;subst h0 h1 h2 h3;rfl
theorem qacv (q:Q4):shQ q 15=q:=qadr fun j hj=>by
 rw [q0v q 15 hj]
 match j,hj with
 | 0,_|1,_|2,_|3,_=>rfl
theorem q93 (q:Q4) (qs:List Q4) {s s':Nat} (h:∀ j,j<4→s/2 ^ j%2=0→s' / 2 ^ j%2=0):(qaa (shQ q s) qs).length≤(qaa (shQ q s') qs).length:=by
 rw [qaa,qaa,← List.countP_eq_length_filter,← List.countP_eq_length_filter];refine List.countP_mono_left fun i _ hi=>?_;cases e:qs[i]? with
 | none=>rw [e] at hi;cases hi
 | some x=>
  rw [e] at hi;refine (qi2 _ _).2 fun j hj=>?_;have hf:=(qi2 _ _).1 hi j hj;rw [q0v q s' hj]
  split
  ·rfl
  ·rename_i g
   rw [q0v q s hj,if_neg (fun g'=>g (h j hj g'))] at hf;exact hf
theorem q92 {s k:Nat} (hs:s<16) (hk:k<4) (hb:s/2 ^ k%2=1):∀ j,j<4→(s-2 ^ k)/2 ^ j%2=0∨s/2 ^ j%2≠0:=by
 have key:∀ s,s<16→∀ k,k<4→s/2 ^ k%2=1→∀ j,j<4→(s-2 ^ k)/2 ^ j%2=0∨s/2 ^ j%2≠0:=by decide
 exact key s hs k hk hb
structure TmtΦ (qs:List Q4) (A:oA) (c:Nat) (p:Q4) (b2 b3:Nat) (w:World):Prop where
 c1:w.cell? ⟨b2,0,none⟩=some (.slice A qs.length c)
 c2:CellsAt w b3 0 (qd p)
 S:SlAt qd 16 w A qs
theorem qaaf (qs:List Q4) (A:oA) (n c:Nat) (p:Q4) (w:World) (_:SlAt qd 16 w A qs) (_:qs.length=n) :
  Gv Tryz.prog 30 [.slice A n c,qq p] w fun r w'=>∃ b2 b3,r=.func (.func 72) #[] #[pp b2,pp b3]∧Mem w w' [(b3,.cells (qd p).toArray 47),(b2,.cells #[.slice A n c] 22)]:=by
 refine ze Tryz.func30 Tryz.ntmps30 ?_;refine znm (Mem.nil w) fun b2 w1 hm=>zw ?_;refine znm hm fun b3 w2 hm=>zw ?_;exact ⟨b2,b3,rfl,hm⟩
theorem q6f {p:Q4} {qs:List Q4} {i:Nat} {q:Q4} (hi:qs[i]?=some q) (hf:fitQ p q=true):((qaa p qs).map (sRow qs))[(mtI p qs i).length]?=some [ii i,qq q]:=by
 have hl:=(List.getElem?_eq_some_iff.1 hi).1;have hp:∀ a b,∃ R,mtI p qs (a+b)=mtI p qs a++R:=fun a b=>⟨_,by rw [mtI,mtI,List.range_eq_range',List.range_eq_range',← List.range'_append,List.filter_append]⟩
 obtain ⟨R,e⟩:=hp (i+1) (qs.length-(i+1));rw [show i+1+(qs.length-(i+1))=qs.length by omega,qzl,qzm hi hf,List.append_assoc] at e;rw [List.getElem?_map,e,List.getElem?_append_right znr,Nat.sub_self];simp [sRow,hi]
theorem qaag (qs:List Q4) (A:oA) (c:Nat) (p:Q4) (b2 b3:Nat) (hb:qs.length≤140737488355328) :
  SeqC Tryz.prog 72 [pp b2,pp b3] ((qaa p qs).map (sRow qs)) (TmtΦ qs A c p b2 b3):=by
 intro y I Ix w cI cIx hI h0 hy;have hxs:((qaa p qs).map (sRow qs)).length=(qaa p qs).length:=List.length_map ..;have b48:tsz Tryz.prog 47=16:=by kernel_rfl
 refine gvW Jk Tryz.func72 rfl Tryz.ntmps72 rfl (zw ?_);refine LoadV.of (hI _ _ _ h0).c1 (zw ?_);refine qza (fun i:Nat=>[(0,.func (.yield y) #[] #[]),(2,pp b3),(6,.slice A qs.length c),(7,ii qs.length),(8,ii i)])
  (fun i w'=>i≤qs.length∧I (mtI p qs i).length [] w') (fun i=>qs.length-i) 0 ⟨rfl,rfl,rfl,rfl,rfl,trivial⟩ ⟨Nat.zero_le _,h0⟩ ?_
 clear h0;rintro i w1 ρ' ⟨hi,hJ⟩;(conv=>whnf);refine zC (fun _=>zw ?_) (fun _=>zw ?_)
 case' refine_2=>
  obtain rfl:i=qs.length:=by omega
  exact .inl (by rw [hxs,← qzl];exact hJ)
 obtain ⟨q,hq⟩:∃ q,qs[i]?=some q:=⟨_,zge Oo⟩
 obtain ⟨g,off,rfl,hc⟩:=(hI _ _ _ hJ).S.at_ (by rintro rfl;cases hq);refine ⟨⟨g,off,i,rfl,by omega,by omega,?_⟩⟩;rw [b48];(conv=>whnf);refine LoadA.cells (hc i q hq) rfl (zw ?_);refine NewV.carr (cI _) hJ fun nb w2 hJ=>zw ?_;refine StoreA.carr (vs:=qd q) (cI _) (A:=[]) hJ rfl (qaq q) fun w3 hJ=>zw ?_;refine LoadA.cells (vs:=qd p) (hI _ _ _ hJ).c2 rfl (zw ?_);refine LoadA.own ((cI _).get hJ mh) rfl (zw ?_);refine zcv (qo8 p q w3) ?_;rintro r w4 ⟨rfl,he4⟩;replace hJ:=(cI _).ext hJ he4;have hil:(mtI p qs i).length<((qaa p qs).map (sRow qs)).length∨fitQ p q=false:=by
  cases hf:fitQ p q
  ·exact .inr rfl
  ·exact .inl (List.getElem?_eq_some_iff.1 (q6f hq hf)).1
 (conv=>whnf);cases hf:fitQ p q
 case' false=>
  have e:=qab7 hq hf;refine zv ?_;exact ⟨rfl,i+1,⟨rfl,rfl,rfl,rfl,congrArg (Value.int .i64) Oo,trivial⟩,⟨by omega,by rw [e];exact (cI _).drop hJ⟩,by omega⟩
 have e:=qzm hq hf;refine zv ?_;refine LoadA.own ((cI _).get hJ mh) rfl (zu ?_);refine YieldV.mono (hy _ _ _ w4 (q6f hq hf) hJ) ?_;clear hJ;rintro v w5 (⟨rfl,hJ⟩|⟨rfl,hX⟩)
 ·refine zu ?_;exact ⟨rfl,i+1,⟨rfl,rfl,rfl,rfl,congrArg (Value.int .i64) Oo,trivial⟩,⟨by omega,by rw [e,zla];exact (cI _).drop hJ⟩,by omega⟩
 ·refine zu ?_;exact .inr ⟨_,hil.resolve_right (by rw [hf];decide),(cIx _).drop hX⟩
theorem qoz (q:Q4) (s:Nat) (hs:s<16) (w:World):Gv Tryz.prog 29 [qq q,ii s] w fun r w'=>r=qq (shQ q s)∧Ext w w':=by
 refine ze Tryz.func29 Tryz.ntmps29 ?_;refine znm (Mem.nil w) fun b2 w1 hm=>zw ?_;refine znm hm fun r4 w2 hm=>zw ?_;refine znm hm fun b5 w3 hm=>zw ?_;refine zS hm 0 ?_;intro w4 hm;replace hm:Mem w w4 [(b5,.cells (fnA 4 (q9g b2)) 68),(r4,.cells (qd zQ).toArray 47),(b2,.cells (qd q).toArray 47)]:=hm;(conv=>whnf);refine qm (fun k:Nat=>[(1,ii s),(2,pp b2),(4,pp r4),(5,pp b5),(6,ii k)])
  (fun k w'=>k≤4∧Mem w w' [(b5,.cells (fnA 4 (q9g b2)) 68),(r4,.cells (qd zQ).toArray 47),(b2,.cells (qd (shK q s k)).toArray 47)]) (fun k=>4-k) 0 ⟨rfl,rfl,rfl,rfl,rfl,trivial⟩ ⟨Nat.zero_le _,hm⟩ ?_
 clear hm;rintro k w5 ρ' ⟨hk,hm⟩;(conv=>whnf);refine zC (fun _=>zw ?_) (fun _=>zw ?_)
 case' refine_2=>
  obtain rfl:k=4:=by omega
  refine zl hm 2 ?_;refine StoreA.all hm (i:=1) rfl rfl (qaq _) fun w6 hm=>zw ?_;refine qj (R:=fun r w'=>r=qq (shQ q s)∧Ext w w') (zw ?_);refine zl hm 1 ?_;exact ⟨rfl,hm.ext⟩
 refine Wit.shrN k rfl (by show k<64;omega) (zw ?_);have h16:s/2 ^ k<16:=Nat.lt_of_le_of_lt (Nat.div_le_self _ _) hs;refine Wit.eq (qbb (k:=.i64) (m:=s/2 ^ k) 1 rfl ⟨Int.le_trans Od (Int.natCast_nonneg _),Int.le_trans (Int.ofNat_le.2 (Nat.le_of_lt h16)) Od⟩ ⟨by decide,by decide⟩) (zw ?_);have hb2:s/2 ^ k%2 ^ 1=0∨s/2 ^ k%2 ^ 1=1:=by omega
 refine zC (fun _=>zu ?_) (fun _=>zu ?_)
 ·rename_i hz
  have e:shK q s (k+1)=putQ (shK q s k) k qdg:=by rw [shK,if_pos Oo]
  refine DrawV.own rfl Jk (zw ?_);refine zo ?_;apply StepO.still
  ·intro wd hd;(conv=>whnf);refine IdxV.at_ k Oo Oo (zw ?_);exact PostO.still xr rfl
  (conv=>whnf);apply StepO.still
  ·intro wd hd;(conv=>whnf);refine LoadV.fn (Mem.call (Mem.drew hm) hd) (i:=0) rfl k (by rw [show tsz Tryz.prog 67=1 from by kernel_rfl];omega) Oo rfl (zw ?_);exact PostO.still xr rfl
  (conv=>whnf);apply StepO.still
  ·intro wd hd;(conv=>whnf);refine zcv (qbo wd) ?_;rintro v w9 ⟨rfl,h9⟩;exact PostO.still h9 rfl
  (conv=>whnf);refine zo ?_;intro w6 hd
  (repeat (intro _;(conv=>whnf)))
  (conv=>whnf);refine StoreA.mem (hm.drew.call hd) (i:=2) rfl (show 4*k+4≤16 by omega) (qab qdg) ?_;intro w7 hm;replace hm:Mem w w7 [(b5,.cells (fnA 4 (q9g b2)) 68),(r4,.cells (qd zQ).toArray 47),(b2,.cells (qd (shK q s (k+1))).toArray 47)]:=by
   rw [e,← qaco _ k qdg Oo];exact hm
  refine zu ?_;exact ⟨k+1,⟨rfl,rfl,rfl,rfl,congrArg (Value.int .i64) Oo,trivial⟩,⟨by omega,hm⟩,by omega⟩
 ·have e:shK q s (k+1)=shK q s k:=by rw [shK,if_neg Oo]
  exact ⟨k+1,⟨rfl,rfl,rfl,rfl,congrArg (Value.int .i64) Oo,trivial⟩,⟨by omega,by rw [e];exact hm⟩,by omega⟩
theorem q3s {qs:List Q4} (ho:qs.Pairwise LtQ) {q:Q4} (h:∀ k,k<4→(gat q k).kind≠4):(qaa q qs).length=1↔q∈qs:=by
 have h0:=(qoa (qs:=qs) h).1
 constructor
 ·intro e;refine Classical.byContradiction fun g=>?_;rw [h0.2 g] at e;cases e
 ·intro hq
  match e:qaa q qs with
  | []=>exact absurd hq (h0.1 e)
  | [i]=>rfl
  | i::j::l=>
   exfalso
   have hp:(qaa q qs).Pairwise (· < ·):=List.Pairwise.filter _ List.pairwise_lt_range;rw [e] at hp;have hij:i<j:=(List.pairwise_cons.1 hp).1 j mh;obtain ⟨a,ha,fa⟩:=qej.1 (show i∈qaa q qs by rw [e];exact List.mem_cons_self ..);obtain ⟨b,hb,fb⟩:=qej.1 (show j∈qaa q qs by rw [e];exact zmc mh);obtain rfl:=(qi3 h).1 fa;obtain rfl:=(qi3 h).1 fb;obtain ⟨a1,a2⟩:=List.getElem?_eq_some_iff.1 ha;obtain ⟨b1,b2⟩:=List.getElem?_eq_some_iff.1 hb;have:=List.pairwise_iff_getElem.1 ho i j a1 b1 hij;rw [a2,b2] at this;have h1:=qcl.2 this;have h2:=(ordQ.eq (a:=q) (b:=q)).2 rfl;omega
def qn9 (Ds:List Nat):List (Nat × Obj):=Ds.map fun D=>(D,.deferred (some []))
def defS (Ds:List Nat):List Deferred:=Ds.map fun D=>{ target:=.collected D,args:=#[] }
def cnF (q:Q4) (qs:List Q4) (s:Nat):Nat→Value:=fun j=>if j<s then ii ((qaa (shQ q j) qs).length:Nat) else ii 0
theorem q2n (q:Q4) (qs:List Q4) (s:Nat):fnA 16 (updF (cnF q qs s) s (ii ((qaa (shQ q s) qs).length:Nat)))=fnA 16 (cnF q qs (s+1)):=qda fun j _=>by
 unfold updF cnF
 by_cases e:j=s
 ·subst e;simp
 ·have:j<s↔j<s+1:=by omega
  simp [e,this]
theorem q9h {p:Q4} {t:TM} {k:Nat} (hp:qak p) (ht:TermOk t):qak (putQ p k t):=by
 intro j;have h0:=hp 0;have h1:=hp 1;have h2:=hp 2;have h3:=hp 3;unfold putQ
 split<;>unfold Q4.at<;>split<;>assumption
theorem qacw {q:Q4} (hq:qak q) (s:Nat):qak (shQ q s):=by
 have ha:TermOk qdg:=qpn 0;have key:∀ k,qak (shK q s k):=fun k=>by
  induction k with
  | zero=>exact hq
  | succ k ih=>
   rw [shK]
   split
   ·exact q9h ih ha
   ·exact ih
 exact key 4
theorem q66 {s k:Nat} (hs:s<16) (hk:k<4) (hb:s/2 ^ k%2=1):qc2 .andNot .i64 (s:Int) ((2 ^ k:Nat):Int)=((s-2 ^ k:Nat):Int):=by
 have key:∀ s:Nat,s<16→∀ k:Nat,k<4→s/2 ^ k%2=1→qc2 .andNot .i64 (s:Int) ((2 ^ k:Nat):Int)=((s-2 ^ k:Nat):Int):=by decide +kernel
 exact key s hs k hk hb
theorem q01 {w w':World} {x:Nat} {cs:Array Value} {t:TypeId} {fz:Nat × Nat} {B:oA} {E:List (Int × Q4)} (h:SlAt snQ 17 w B E) (hx:w.heap[x]?=some (.cells cs t fz)) (hi:∀ u∈cs.toList,∃ n,u=ii n) (hw:∀ c,c≠x→w'.heap[c]?=w.heap[c]?):SlAt snQ 17 w' B E:=by
 refine ⟨fun hn=>?_⟩;obtain ⟨b,off,h1,h2⟩:=h.at_ hn;refine ⟨b,off,h1,fun j y hy=>(h2 j y hy).other ?_ hw⟩;rintro rfl;have:=h2 j y hy 2 (.string y.2.s.text) rfl;rw [qa hx] at this;obtain ⟨n,e⟩:=hi _ (zmg (by rw [Array.getElem?_toList];exact this));cases e
theorem qxe (q:Q4) (qs:List Q4) (s:Nat):∀ u∈(fnA 16 (cnF q qs s)).toList,∃ n,u=ii n:=fun u hu=>by
 obtain ⟨j,hj⟩:=List.getElem?_of_mem hu;have hl:=(List.getElem?_eq_some_iff.1 hj).1;rw [qly 16 _ j (by simpa [qa1] using hl)] at hj;cases hj;unfold cnF
 split<;>exact ⟨_,rfl⟩
theorem qv2 {α:Type} (c l p d b3 b2:α) (Y Z:List α):(c::l::p::d::Z++(b3::b2::Y)).Perm ([d]++(Y++[l])++([]++(b3::b2::p::(Z++[c])))):=by
 classical
 rw [List.perm_iff_count];intro a;simp only [List.count_append,List.count_cons,List.count_nil];omega
theorem qh4 (qs:List Q4) (A:oA) (n c:Nat) (q:Q4) (w:World) (hS:SlAt qd 16 w A qs) (hn:qs.length=n) (hb:n≤140737488355328) (hq:∀ q∈qs,qak q) (hqo:qak q) (hG:GlobO w) :
  Gv Tryz.prog 8 [.slice A n c,qq q] w fun r w'=>r=.bool true∧Ext w w':=by
 subst hn;have t17:((Tryz.prog.info? 77).get Jk).bytes=232:=s20B;refine gvW Jk Tryz.func8 rfl Tryz.ntmps8 rfl (zw ?_);refine znm (Mem.nil w) ?_;intro qb w1 hm;replace hm:Mem w w1 [(qb,.cells (qd q).toArray 47)]:=hm;(conv=>whnf);refine zcv (qrs w1 (hG.ext hm.ext)) ?_;rintro r w2 ⟨rfl,he⟩;replace hm:=hm.call he;refine zu ?_;refine zcv (qfx qs A qs.length c w2 (hS.ext hm.ext) rfl hb hq (hG.ext hm.ext).S (hG.ext hm.ext).N (hG.ext hm.ext).E) ?_;rintro r v ⟨⟨_,rfl⟩|⟨hen,x,xp,vb,tb,rfl,hX⟩,he⟩
 ·refine zu ?_;exact ⟨rfl,hm.ext.trans he⟩
 replace hm:=hm.call he;have hlen:=hen.set.len;have hqv:v.heap[qb]?=some (.cells (qd q).toArray 47):=hm.get mh;have hwv:=hm.ext;replace hG:=hG.ext hwv;replace hS:=hS.ext hwv;clear hm he;refine zu ?_;refine znm (Mem.nil v) ?_;intro cb w4 hm;replace hm:Mem v w4 [(cb,.cells (fnA 16 (cnF q qs 0)) 85)]:=hm;(conv=>whnf);refine q6e (fun x1:Nat × List Nat=>[(0,.slice A qs.length c),(3,pp qb),(5,pp x),(7,pp cb),(8,ii x1.1)])
  (fun x1=>defS x1.2) (fun x1 w'=>x1.1≤16∧x1.2.length=x1.1∧Mem v w' (qn9 x1.2++[(cb,.cells (fnA 16 (cnF q qs x1.1)) 85)])) (fun x1=>16-x1.1) (0,[]) ⟨rfl,rfl,rfl,rfl,rfl,trivial⟩ rfl ⟨Nat.zero_le _,rfl,hm⟩ ?_
 clear hm;rintro ⟨s,Ds⟩ w5 ρ' ⟨hs,hDs,hm⟩;dsimp only at hs hDs hm ⊢;(conv=>whnf);refine if h16:s<16 then ?go else ?fin
 case' go=>
  obtain ⟨ps,eps⟩:∃ ps,ps=shQ q s:=⟨_,rfl⟩
  have hpo:qak ps:=by rw [eps];exact qacw hqo s
  refine zv ?_;refine LoadA.own (hm.ext.get hqv) rfl (zw ?_);refine zcv (qoz q s h16 w5) ?_;rintro r w6 ⟨rfl,he⟩;rw [← eps];replace hm:=hm.call he;clear he;(conv=>whnf);refine znm hm fun pb w7 hm=>zw ?_;refine StoreA.all hm (i:=0) rfl rfl (qaq ps) fun w8 hm=>zw ?_;refine znm hm ?_;clear hm;intro lb w9 hm;replace hm:Mem v w9 ((lb,.cells #[.slice none 0 0] 71)::(pb,.cells (qd ps).toArray 47)::(qn9 Ds++[(cb,.cells (fnA 16 (cnF q qs s)) 85)])):=hm;(conv=>whnf);refine LoadA.own (hm.get (zmc mh)) rfl (zw ?_);refine zcv (qaaf qs A qs.length c ps w9 (hS.ext hm.ext) rfl) ?_;rintro r w10 ⟨b2,b3,rfl,hm5⟩;replace hm:=hm.glue hm5;clear hm5;(conv=>whnf);refine ⟨⟨.bool false,w10,?_,?_⟩⟩
  ·kernel_rfl
  refine zu ?_;obtain ⟨M,eM⟩:∃ M,M=qaa ps qs:=⟨_,rfl⟩
  have hMl:M.length≤qs.length:=by rw [eM];exact qkt ps qs
  obtain ⟨rows,erows⟩:∃ rows:List (List Value),rows=(snL qs M).map snQ:=⟨_,rfl⟩
  have hrl:rows.length=M.length:=by rw [erows,List.length_map,qmw]
  have hxl:(M.map (sRow qs)).length=rows.length:=by rw [List.length_map,hrl]
  obtain ⟨L,hL⟩:∃ L:List (Nat × Obj),L=(b3,.cells (qd ps).toArray 47)::(b2,.cells #[.slice A qs.length c] 22)::(pb,.cells (qd ps).toArray 47)::(qn9 Ds++[(cb,.cells (fnA 16 (cnF q qs s)) 85)]):=⟨_,rfl⟩
  have hin3:(b3,Obj.cells (qd ps).toArray 47)∈L:=by rw [hL];simp
  have hin2:(b2,Obj.cells #[.slice A qs.length c] 22)∈L:=by rw [hL];simp
  have hinp:(pb,Obj.cells (qd ps).toArray 47)∈L:=by rw [hL];simp
  have hinc:(cb,Obj.cells (fnA 16 (cnF q qs s)) 85)∈L:=by rw [hL];simp
  have hΦ:∀ (N:List (Nat × Obj)) (X:List (Nat × Obj)) (w':World),Mem v w' (X++(N++L))→TmtΦ qs A c ps b2 b3 w':=fun N X w' hh=>⟨by rw [qa (hh.get (List.mem_append_right _ (List.mem_append_right _ hin2)))];rfl,fun j u hu=>by rw [qa (hh.get (List.mem_append_right _ (List.mem_append_right _ hin3))),Nat.zero_add,List.getElem?_toArray];exact hu,hS.ext hh.ext⟩
  have hseq:=qaag qs A c ps b2 b3 hb;rw [← eM] at hseq;have hrw:∀ r∈(M.map (sRow qs)),r.length=2:=fun r hr=>by
   obtain ⟨j,_,rfl⟩:=List.mem_map.1 hr;rfl
  replace hm:Mem v w10 ([]++([]++[(lb,.cells #[.slice none 0 0] 71)])++([]++L)):=by
   rw [hL];exact hm.perm (List.Perm.trans (List.Perm.swap _ _ _) (List.Perm.cons _ (List.Perm.swap _ _ _)))
  refine qjk (b:=lb) (el:=77) (m:=rows.length) (N:=[]) 2 17 hseq hrw hΦ hxl hm ?_ ?_
  case' refine_2=>
   clear hm;rintro l2 D oa od k r X w11 hr hJ;rw [List.getElem?_map] at hr;cases hrow:M[k]? with
   | none=>rw [hrow] at hr;cases hr
   | some i=>
   rw [hrow,Option.map_some,Option.some.injEq] at hr;subst hr;have hkM:=(List.getElem?_eq_some_iff.1 hrow).1;have cJ:Carr (fun X w'=>Mem v w' (X++([]++L))):=(qc9 v).tail _;have cS:=TkJ.carr cJ lb 71 77 17 rows rows.length k;obtain ⟨y,ey⟩:∃ y,qs.getD i zQ=y:=⟨_,rfl⟩
   have hrk:rows[k]?=some (snQ ((i:Int),y)):=by rw [erows,List.getElem?_map,qq7 hrow,Option.map_some,ey]
   rw [show sRow qs i=[ii i,qq y] by rw [sRow,ey]];(conv=>whnf);refine NewV.carr cS hJ fun nb w12 hJ=>zw ?_;refine StoreA.carr (vs:=qd y) cS (A:=[]) hJ rfl (qaq y) fun w13 hJ=>zw ?_;refine ⟨rfl,(nb,.cells (qd y).toArray 47)::(D,.deferred (some []))::X,cS.perm hJ (List.Perm.swap _ _ _),?_⟩;clear hJ;rintro w14 ⟨⟨u,Y⟩,⟨hR,hkm⟩,hJ⟩;dsimp only at hR hJ;obtain ⟨Av,cv,ev⟩:=hR.slice;subst ev;have hg:=hJ.get (b:=lb) (o:=.cells #[.slice Av k cv] 71) Js;(conv=>whnf);refine LoadV.own hg rfl (zw ?_);refine LoadA.own (hJ.get (b:=nb) (o:=.cells (qd y).toArray 47) Js) rfl (zw ?_);refine NewV.carr cJ hJ fun ub w15 hJ=>zw ?_;refine AppV.box (news:=snQ ((i:Int),y)) cJ hJ hR q9w s20I s20Z Jk Jk Od rfl (qq8 _) (by rw [t17];omega) ?_;clear hJ;intro A5 c5 Y5 w16 hR5 hJ;(conv=>whnf);refine StoreV.box cJ hJ fun w17 hJ=>zw ?_;exact ⟨(.slice A5 (k+1) c5,Y5),⟨by rw [qim hrk];exact hR5,by omega⟩,cJ.dropM (A:=[(l2,od)]) hJ⟩
  clear hm;rintro D1 w11 ⟨⟨v1,Y1⟩,hR1,hJ⟩;dsimp only at hR1 hJ;rw [List.take_length] at hR1;obtain ⟨E,eE⟩:∃ E,E=snL qs M:=⟨_,rfl⟩
  have hEl:E.length=M.length:=by rw [eE,qmw]
  rw [erows,List.length_map,← eE] at hR1;have hY1:∀ y∈Y1,w11.heap[y.1]?=some y.2:=fun y hy=>hJ.get (List.mem_append_left _ (List.mem_append_right _ (List.mem_append_left _ hy)))
  obtain ⟨A1,d1,rfl,hd1,hS1⟩:=qe4 qfi (by rw [List.length_map];exact hR1) hY1;replace hm:Mem v w11 ((cb,.cells (fnA 16 (cnF q qs s)) 85)::(lb,.cells #[.slice A1 E.length d1] 71)::(pb,.cells (qd ps).toArray 47)::qn9 (D1::Ds)):=by
   refine Mem.sub (hJ.perm (L':=((cb,.cells (fnA 16 (cnF q qs s)) 85)::(lb,.cells #[.slice A1 E.length d1] 71)::(pb,.cells (qd ps).toArray 47)::qn9 (D1::Ds))++((b3,.cells (qd ps).toArray 47)::(b2,.cells #[.slice A qs.length c] 22)::Y1)) ?_) (List.sublist_append_left _ _);rw [hL];exact qv2 ..
  clear hJ hY1;(conv=>whnf);refine LoadA.own (hm.get (b:=pb) (o:=.cells (qd ps).toArray 47) Js) rfl (zu ?_);rw [show (qs.length:Int)+1=((qs.length+1:Nat):Int) by omega];refine zcv (qi8 _ qs hen x xp vb tb ps hpo (qs.length+1) Oo w11 (hX.ext hm.ext) (hG.ext hm.ext).S) ?_;rintro r w12 ⟨⟨u,rfl,hM⟩,he⟩;rw [List.take_of_length_le (by rw [← eM];omega),← eM,← eE] at hM;obtain ⟨B2,d2,rfl,hd2,hS2⟩:=hM;replace hm:=hm.call he;replace hS1:=hS1.ext he;(conv=>whnf);refine LoadA.own (hm.get (b:=pb) (o:=.cells (qd ps).toArray 47) Js) rfl (zw ?_);refine zcv (qk3 _ qs hen x xp vb tb ps hpo w12 (hX.ext hm.ext) (hG.ext hm.ext).S) ?_;rintro r w13 ⟨rfl,he⟩;rw [← eM];replace hm:=hm.call he;replace hS1:=hS1.ext he;replace hS2:=hS2.ext he;clear he;(conv=>whnf);refine IdxV.at_ s Oo Oo (zw ?_);rw [show tsz Tryz.prog 3=1 from by kernel_rfl,Nat.mul_one,Nat.zero_add];refine StoreV.row hm (i:=0) rfl (by rw [qa1];exact h16) rfl ?_;intro w14 hw14 _ hm14;have hcb:=hm.get mh;replace hS1:=q01 hS1 hcb (qxe q qs s) hw14;replace hS2:=q01 hS2 hcb (qxe q qs s) hw14;replace hm:Mem v w14 ((cb,.cells (fnA 16 (cnF q qs (s+1))) 85)::(lb,.cells #[.slice A1 E.length d1] 71)::(pb,.cells (qd ps).toArray 47)::qn9 (D1::Ds)):=by
   rw [← q2n,← qdl,← eps,← eM];exact hm14
  clear hm14 hw14 hcb;have hs1:cnF q qs (s+1) s=ii (M.length:Nat):=by rw [cnF,if_pos Oo,← eps,← eM]
  (conv=>whnf);have hx:∀ wd,Ext w14.drew wd→Ext w14 wd:=fun wd hd=>(Ext.refl w14).drew.trans hd
  have hlb:=hm.get (b:=lb) (o:=.cells #[.slice A1 E.length d1] 71) Js;refine DrawW.any Jk (.inr Jk) (AnyV.free Jk ?_);(conv=>whnf);(iterate 4 (refine zd ?_));apply zsd (.slice A1 E.length d1)
  ·intro wd hd;refine zu ?_;refine LoadV.own ((hx wd hd).get hlb) rfl (zw ?_);exact ⟨xr,rfl⟩
  (conv=>whnf);apply zsd (.bool true)
  ·intro wd hd;refine zu ?_;refine zcv (qc5 E B2 A1 d2 d1 wd (hS2.ext (hx wd hd)) (hS1.ext (hx wd hd)) Oo) ?_;rintro r wx ⟨rfl,hex⟩;exact ⟨hex,rfl⟩
  (conv=>whnf);(iterate 5 (refine zd ?_));apply zsd (ii (M.length:Nat))
  ·intro wd hd;refine zu ?_;refine LoadV.fn (hm.call (hx wd hd)) (i:=0) rfl s (by rw [show tsz Tryz.prog 3=1 from by kernel_rfl];omega) h16 hs1 (zw ?_);exact ⟨xr,rfl⟩
  (conv=>whnf);apply zsd (.slice A1 E.length d1)
  ·intro wd hd;refine zu ?_;refine LoadV.own ((hx wd hd).get hlb) rfl (zw ?_);exact ⟨xr,rfl⟩
  (conv=>whnf);refine zd ?_;apply zsd (.bool false)
  ·intro wd hd;refine zu ?_;exact ⟨xr,by rw [hEl];simp⟩
  (conv=>whnf);refine zd ?_;intro w15 he15;replace hm:=hm.call (hx _ he15);clear hS1 hS2 hlb he15 hx;refine zu ?_;refine q6e (fun k:Nat=>[(0,.slice A qs.length c),(3,pp qb),(5,pp x),(7,pp cb),(8,ii s),(16,ii k)])
   (fun _=>defS (D1::Ds)) (fun k w'=>k≤4∧Mem v w' ((cb,.cells (fnA 16 (cnF q qs (s+1))) 85)::qn9 (D1::Ds))) (fun k=>4-k) 0 ⟨rfl,rfl,rfl,rfl,rfl,rfl,trivial⟩ rfl ⟨Nat.zero_le _,hm.sub (List.Sublist.cons_cons _ (List.Sublist.cons _ (List.sublist_cons_self ..)))⟩ ?_
  clear hm;rintro k w16 ρ2 ⟨hk,hm⟩;(conv=>whnf);refine if hk4:k=4 then ?fi else ?re
  case' fi=>
   subst hk4;refine zv ?_;exact ⟨(s+1,D1::Ds),⟨rfl,rfl,rfl,rfl,congrArg (Value.int .i64) (by dsimp only;omega),trivial⟩,rfl,⟨by dsimp only;omega,by rw [List.length_cons,hDs],hm.perm List.perm_append_comm⟩,by dsimp only;omega⟩
  refine zv ?_;have h16k:s/2 ^ k<16:=Nat.lt_of_le_of_lt (Nat.div_le_self _ _) h16;have hx:∀ wd,Ext w16.drew wd→Ext w16 wd:=fun wd hd=>(Ext.refl w16).drew.trans hd
  have hnext:∀ w',Ext w16.drew w'→Mem v w' ((cb,.cells (fnA 16 (cnF q qs (s+1))) 85)::qn9 (D1::Ds)):=fun w' h=>hm.call (hx w' h)
  refine DrawW.any Jk (.inr Jk) (AnyV.free Jk ?_);(conv=>whnf);refine zd ?_;refine zd ?_;refine zsd (ii (s/2 ^ k:Nat)) (fun wd hd=>zw ?_) (zw ?_)
  ·refine Wit.shrN k rfl (by show k<64;omega) (zw ?_);exact ⟨xr,rfl⟩
  refine zsd (ii (s/2 ^ k%2 ^ 1:Nat)) (fun wd hd=>zw ?_) (zw ?_)
  ·refine Wit.eq (qbb (k:=.i64) (m:=s/2 ^ k) 1 rfl ⟨Int.le_trans Od (Int.natCast_nonneg _),Int.le_trans (Int.ofNat_le.2 (Nat.le_of_lt h16k)) Od⟩ ⟨by decide,by decide⟩) (zw ?_);exact ⟨xr,rfl⟩
  refine if hbit:s/2 ^ k%2 ^ 1=1 then ?on else ?off
  case' off=>
   refine zsd (.bool false) (fun wd hd=>zw ?_) (zw ?_)
   ·exact ⟨xr,by rw [decide_eq_false Oo]⟩
   (iterate 12 (refine zd ?_))
  case' on=>
   have hbit0:=hbit;obtain ⟨P,eP⟩:∃ P,P=2 ^ k:=⟨_,rfl⟩
   have hPs:P≤s:=by
    rcases Nat.lt_or_ge s P with g|g
    ·rw [← eP,Nat.div_eq_of_lt g] at hbit;cases hbit
    ·exact g
   have hP0:0<P:=by rw [eP];exact Nat.two_pow_pos k
   have hmo:(qaa (shQ q s) qs).length≤(qaa (shQ q (s-P)) qs).length:=q93 q qs fun j hj h0=>by
    rw [eP];exact (q92 h16 Oo (by simpa using hbit) j hj).resolve_right (fun g=>g h0)
   rw [← eps,← eM] at hmo;have hs2:cnF q qs (s+1) (s-P)=ii ((qaa (shQ q (s-P)) qs).length:Nat):=by rw [cnF,if_pos Oo]
   obtain ⟨m2,em2⟩:∃ m2,m2=(qaa (shQ q (s-P)) qs).length:=⟨_,rfl⟩
   rw [← em2] at hmo hs2;refine zsd (.bool true) (fun wd hd=>zw ?_) (zw ?_)
   ·exact ⟨xr,by rw [decide_eq_true Oo]⟩
   (iterate 3 (refine zd ?_));apply zsd (ii (M.length:Nat))
   ·intro wd hd;refine zu ?_;refine LoadV.fn (hnext wd hd) (i:=0) rfl s (by rw [show tsz Tryz.prog 3=1 from by kernel_rfl];omega) h16 hs1 (zw ?_);exact ⟨xr,rfl⟩
   (conv=>whnf);refine zd ?_;refine zd ?_;apply zsd (ii (P:Nat))
   ·intro wd hd;refine zu ?_;refine V.Wit.shlN (a:=1) k rfl (by show k<64;omega) ⟨Int.le_trans Od (Int.natCast_nonneg _),Int.le_trans (Int.ofNat_le.2 (show 1*2 ^ k≤15 by rw [Nat.one_mul,← eP];omega)) Od⟩ (zw ?_);exact ⟨xr,by rw [eP,Nat.one_mul]⟩
   (conv=>whnf);apply zsd (ii (s-P:Nat))
   ·intro wd hd;refine zu ?_;refine Wit.eq (show qc2 .andNot .i64 (s:Int) ((P:Nat):Int)=((s-P:Nat):Int) by rw [eP];exact q66 h16 Oo (by simpa using hbit0)) (zw ?_);exact ⟨xr,rfl⟩
   (conv=>whnf);refine zd ?_;apply zsd (ii (m2:Nat))
   ·intro wd hd;refine zu ?_;refine LoadV.fn (hnext wd hd) (i:=0) rfl (s-P) (by rw [show tsz Tryz.prog 3=1 from by kernel_rfl];omega) Oo hs2 (zw ?_);exact ⟨xr,rfl⟩
   (conv=>whnf);apply zsd (.bool false)
   ·intro wd hd;refine zu ?_;exact ⟨xr,by rw [decide_eq_false Oo]⟩
   (conv=>whnf);refine zd ?_
  all_goals
   intro w17 he17;replace hm:=hnext w17 he17;refine zu ?_;exact ⟨k+1,⟨rfl,rfl,rfl,rfl,rfl,congrArg (Value.int .i64) Oo,trivial⟩,rfl,⟨by omega,hm⟩,by omega⟩
 obtain rfl:s=16:=by omega
 refine zv ?_;have hx:∀ wd,Ext w5.drew wd→Ext w5 wd:=fun wd hd=>(Ext.refl w5).drew.trans hd
 have hcb:=hm.get (List.mem_append_right _ mh);obtain ⟨b0,hb0⟩:∃ b0:Bool,b0=true↔q∈qs:=by
  by_cases g:q∈qs
  ·exact ⟨true,by simp [g]⟩
  ·exact ⟨false,by simp [g]⟩
 obtain ⟨m15,e15⟩:∃ m15,m15=(qaa q qs).length:=⟨_,rfl⟩
 have h15:cnF q qs 16 15=ii (m15:Nat):=by rw [cnF,if_pos Od,qacv,e15]
 refine DrawW.any Jk (.inl rfl) (AnyV.free Jk ?_);(conv=>whnf);refine zd ?_;refine zsd (qq q) (fun wd hd=>zw ?_) (zw ?_)
 ·refine LoadA.own ((hx wd hd).get (hm.ext.get hqv)) rfl (zw ?_);exact ⟨xr,rfl⟩
 refine zsd (.bool b0) (fun wd hd=>zw ?_) (zw ?_)
 ·refine zcv (qt0 _ qs hen x xp vb tb q hqo wd (hX.ext (hm.ext.trans (hx wd hd))) (hG.ext (hm.ext.trans (hx wd hd))).S) ?_;rintro r wx ⟨⟨b,rfl,hbb⟩,hex⟩;exact ⟨hex,by rw [show b=b0 by cases b<;>cases b0<;>simp_all]⟩
 refine zsd (.pointer (some ⟨cb,15,none⟩)) (fun wd hd=>zw ?_) (zw ?_)
 ·refine IdxV.at_ 15 Oo Od ?_;rw [show tsz Tryz.prog 3=1 from by kernel_rfl];(conv=>whnf);exact ⟨xr,rfl⟩
 refine zsd (ii (m15:Nat)) (fun wd hd=>zw ?_) (zw ?_)
 ·refine LoadV.own ((hx wd hd).get hcb) (by rw [qa7 16 _ 15 Od,h15]) (zw ?_);exact ⟨xr,rfl⟩
 refine zsd (.bool (decide (m15=1))) (fun wd hd=>zw ?_) (zw ?_)
 ·exact ⟨xr,by rw [decide_eq_decide.2 (show ((m15:Nat):Int)=1↔m15=1 by omega)]⟩
 refine if he:b0=decide (m15=1) then ?eq else ?ne
 case' eq=>
  refine zsd (.bool true) (fun wd hd=>zw ?_) (zw ?_)
  ·exact ⟨xr,by rw [he];simp⟩
  (iterate 25 (refine zd ?_))
 case' ne=>
  refine zsd (.bool false) (fun wd hd=>zw ?_) (zw ?_)
  ·exact ⟨xr,by rw [beq_eq_false_iff_ne.2 he]⟩
  (iterate 3 (refine zd ?_));apply zsd (ii q.s.kind)
  ·intro wd hd;refine zu ?_;refine LoadV.own ((hx wd hd).get (hm.ext.get hqv)) rfl (zw ?_);exact ⟨xr,rfl⟩
  (conv=>whnf);refine if k0:q.s.kind=4 then ?y0 else ?n0
  case' y0=>
   apply zsd (.bool true)
   ·intro wd hd;refine zu ?_;exact ⟨xr,by rw [decide_eq_true k0]⟩
   (conv=>whnf);(iterate 20 (refine zd ?_))
  case' n0=>
   apply zsd (.bool false)
   ·intro wd hd;refine zu ?_;exact ⟨xr,by rw [decide_eq_false k0]⟩
   (conv=>whnf);(iterate 4 (refine zd ?_));apply zsd (ii q.p.kind)
   ·intro wd hd;refine zu ?_;refine LoadV.own ((hx wd hd).get (hm.ext.get hqv)) rfl (zw ?_);exact ⟨xr,rfl⟩
   (conv=>whnf);refine if k1:q.p.kind=4 then ?y1 else ?n1
   case' y1=>
    apply zsd (.bool true)
    ·intro wd hd;refine zu ?_;exact ⟨xr,by rw [decide_eq_true k1]⟩
    (conv=>whnf);(iterate 14 (refine zd ?_))
   case' n1=>
    apply zsd (.bool false)
    ·intro wd hd;refine zu ?_;exact ⟨xr,by rw [decide_eq_false k1]⟩
    (conv=>whnf);(iterate 4 (refine zd ?_));apply zsd (ii q.o.kind)
    ·intro wd hd;refine zu ?_;refine LoadV.own ((hx wd hd).get (hm.ext.get hqv)) rfl (zw ?_);exact ⟨xr,rfl⟩
    (conv=>whnf);refine if k2:q.o.kind=4 then ?y2 else ?n2
    case' y2=>
     apply zsd (.bool true)
     ·intro wd hd;refine zu ?_;exact ⟨xr,by rw [decide_eq_true k2]⟩
     (conv=>whnf);(iterate 8 (refine zd ?_))
    case' n2=>
     apply zsd (.bool false)
     ·intro wd hd;refine zu ?_;exact ⟨xr,by rw [decide_eq_false k2]⟩
     (conv=>whnf);(iterate 4 (refine zd ?_));apply zsd (ii q.g.kind)
     ·intro wd hd;refine zu ?_;refine LoadV.own ((hx wd hd).get (hm.ext.get hqv)) rfl (zw ?_);exact ⟨xr,rfl⟩
     (conv=>whnf);refine if k3:q.g.kind=4 then ?y3 else ?n3
     case' y3=>
      apply zsd (.bool true)
      ·intro wd hd;refine zu ?_;exact ⟨xr,by rw [decide_eq_true k3]⟩
      (conv=>whnf);refine zd ?_;refine zd ?_
     case' n3=>
      exfalso
      have h1:=q3s hen.set.ord (q:=q) (fun k hk=>by
       match k,hk with
       | 0,_=>exact k3
       | 1,_=>exact k0
       | 2,_=>exact k1
       | 3,_=>exact k2)
      rw [← e15] at h1;exact he (by
       by_cases g:m15=1
       ·rw [decide_eq_true g];exact hb0.2 (h1.1 g)
       ·rw [decide_eq_false g];cases hb:b0
        ·rfl
        ·exact absurd (h1.2 (hb0.1 hb)) g)
 all_goals
  intro w6 he6;replace hm:=hm.call (hx w6 he6);(conv=>whnf);obtain ⟨D,Ds',rfl⟩:∃ D Ds',Ds=D::Ds':=by
   cases Ds with
   | nil=>cases hDs
   | cons D Ds'=>exact ⟨D,Ds',rfl⟩
  rw [show defS (D::Ds')=qqg D::Ds'.map qqg from rfl];refine LeaveV.marks (J:=fun X w'=>Mem v w' (X++[(cb,.cells (fnA 16 (cnF q qs 16)) 85)])) ((qc9 v).tail _) ?_ (D:=D) (Ds:=Ds') hm;intro w' h';(conv=>whnf);exact ⟨rfl,hwv.trans h'.ext⟩
end Go.Proofs.YtccmcfpmknpccaaGreatDoor
