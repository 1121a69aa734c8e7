/- Lemmas and contracts of functions on the way to the law's card (part 9 of 10). -/
import Derived.Test.YtkienlambankeaaGreatDoorPU8
import Derived.LaidHandle
import Derived.Shelf.Vars
namespace Go.Proofs.YtkienlambankeaaGreatDoor
set_option maxHeartbeats 8000000
open Go.ChangeShapes Go.WideShapes Go.ChangeAt Go.RowKit V
set_option maxRecDepth 100000
theorem qi8:Tryz.prog.cellsOf 66=4:=by kernel_rfl
theorem qxh:Tryz.prog.cellsOf 68=16:=by kernel_rfl
theorem q6w:Tryz.prog.bytesOf 68=224:=by kernel_rfl
section
variable {H:Type} {enc:TypeId × Value→H} {W:World}
theorem qmz {c:Value} (h:Opn enc Tryz.prog W 9 [c]):∃ s:ByteArray,c=.string s∧s.size≤140737488355328:=h.string Tryz.underlying9
theorem qgo {cs:List Value} (h:Opn enc Tryz.prog W 66 cs):∃ t:TM,cs=encT t∧InR .i64 t.kind∧hvT t≤20+3*140737488355328:=by
 obtain ⟨hl,hf⟩:=Opn.fields Tryz.underlying66 h;rw [qi8] at hl
 match cs,hl with
 | [c0,c1,c2,c3],_=>
  have g0:Opn enc Tryz.prog W 3 (([c0,c1,c2,c3].drop 0).take (Tryz.prog.cellsOf 3)):=hf 0 _ rfl;rw [ql2] at g0;have g1:Opn enc Tryz.prog W 9 (([c0,c1,c2,c3].drop 1).take (Tryz.prog.cellsOf 9)):=hf 1 _ rfl;rw [ql3] at g1;have g2:Opn enc Tryz.prog W 9 (([c0,c1,c2,c3].drop 2).take (Tryz.prog.cellsOf 9)):=hf 2 _ rfl;rw [ql3] at g2;have g3:Opn enc Tryz.prog W 9 (([c0,c1,c2,c3].drop 3).take (Tryz.prog.cellsOf 9)):=hf 3 _ rfl;rw [ql3] at g3;obtain ⟨n0,rfl,k0⟩:=Opn.int (c:=c0) Tryz.underlying3 g0;obtain ⟨n1,rfl,k1⟩:=qmz (c:=c1) g1;obtain ⟨n2,rfl,k2⟩:=qmz (c:=c2) g2;obtain ⟨n3,rfl,k3⟩:=qmz (c:=c3) g3;exact ⟨⟨n0,n1,n2,n3⟩,rfl,qtf k0,by show 20+n1.size+n2.size+n3.size≤_;omega⟩
def QdOk (q:Q4):Prop:=(∀ k,InR .i64 (q.at k).kind)∧hvQ q≤1152921504606846976
theorem qzi {cs:List Value} (h:Opn enc Tryz.prog W 68 cs):∃ q:Q4,cs=qaf q∧QdOk q:=by
 obtain ⟨hl,hf⟩:=Opn.fields Tryz.underlying68 h;rw [qxh] at hl
 match cs,hl with
 | [a0,a1,a2,a3,b0,b1,b2,b3,c0,c1,c2,c3,d0,d1,d2,d3],_=>
  have g0:Opn enc Tryz.prog W 66 (([a0,a1,a2,a3,b0,b1,b2,b3,c0,c1,c2,c3,d0,d1,d2,d3].drop 0).take (Tryz.prog.cellsOf 66)):=hf 0 _ rfl;rw [qi8] at g0;have g1:Opn enc Tryz.prog W 66 (([a0,a1,a2,a3,b0,b1,b2,b3,c0,c1,c2,c3,d0,d1,d2,d3].drop 4).take (Tryz.prog.cellsOf 66)):=hf 1 _ rfl;rw [qi8] at g1;have g2:Opn enc Tryz.prog W 66 (([a0,a1,a2,a3,b0,b1,b2,b3,c0,c1,c2,c3,d0,d1,d2,d3].drop 8).take (Tryz.prog.cellsOf 66)):=hf 2 _ rfl;rw [qi8] at g2;have g3:Opn enc Tryz.prog W 66 (([a0,a1,a2,a3,b0,b1,b2,b3,c0,c1,c2,c3,d0,d1,d2,d3].drop 12).take (Tryz.prog.cellsOf 66)):=hf 3 _ rfl;rw [qi8] at g3;obtain ⟨t0,e0,k0,m0⟩:=qgo (cs:=[a0,a1,a2,a3]) g0;obtain ⟨t1,e1,k1,m1⟩:=qgo (cs:=[b0,b1,b2,b3]) g1;obtain ⟨t2,e2,k2,m2⟩:=qgo (cs:=[c0,c1,c2,c3]) g2;obtain ⟨t3,e3,k3,m3⟩:=qgo (cs:=[d0,d1,d2,d3]) g3;simp only [encT,List.cons.injEq] at e0 e1 e2 e3;obtain ⟨rfl,rfl,rfl,rfl,_⟩:=e0;obtain ⟨rfl,rfl,rfl,rfl,_⟩:=e1;obtain ⟨rfl,rfl,rfl,rfl,_⟩:=e2;obtain ⟨rfl,rfl,rfl,rfl,_⟩:=e3;refine ⟨⟨t0,t1,t2,t3⟩,rfl,fun k=>?_,by show hvT t0+hvT t1+hvT t2+hvT t3≤_;omega⟩
  match k with
  | 0=>exact k0
  | 1=>exact k1
  | 2=>exact k2
  | k+3=>exact k3
noncomputable instance:Inhabited Q4:=⟨awQ⟩
theorem qvp {c:Value} (h:Opn enc Tryz.prog W 22 [c]) :
  ∃ (A:oA) (cap:Nat) (l:List Q4),c=.slice A l.length cap∧l.length≤140737488355328∧(∀ q∈l,QdOk q)∧SlAt qaf 16 W A l:=by
 obtain ⟨A,cap,l,h1,h2,h3,h4,h5⟩:=h.sliceR (en:=qaf) (R:=QdOk) (size:=16) Tryz.underlying22 qxh Od qpg (fun cs hc=>qzi hc);rw [q6w] at h3;exact ⟨A,cap,l,h1,by omega,h4,h5⟩
end
theorem q7n {W:World} (h:W.ShapedOpen Tryz.prog):MaxLenAt W:=
 cell_of_shapedOpen_int (zero:=#[ii 0]) (t:=3) (k:=.i64) h (of_decide_eq_true Jk) Jk rfl Jk Jk Tryz.underlying3
def tabs:List (String × DataW Unit):=[("unicode/utf8.acceptRanges",Rows.laid_unicode_utf8_acceptRanges),("tessera/sums.nibbles",Rows.laid_tessera_sums_nibbles),("tessera/names.basesTable",Rows.laid_tessera_names_basesTable),("tessera/vocab.kinds",Rows.laid_tessera_vocab_kinds),("unicode/utf8.first",Rows.laid_unicode_utf8_first)]
def q7j:List (String × DataW Unit):=[("unicode/utf8.acceptRanges",Rows.laid_unicode_utf8_acceptRanges),("errors.errorType",Rows.laid_errors_errorType),("tessera/sums.nibbles",Rows.laid_tessera_sums_nibbles),("tessera/names.basesTable",Rows.laid_tessera_names_basesTable),("tessera/vocab.kinds",Rows.laid_tessera_vocab_kinds),("unicode/utf8.first",Rows.laid_unicode_utf8_first)]
theorem qaaw {W:World} (h:laidMetH Tryz.prog q7j W):laidMet Tryz.prog tabs W∧handlesMet Tryz.prog [("errors.errorType",Rows.laid_errors_errorType)] W:=h
theorem qabt {W:World} (h:laidMet Tryz.prog tabs W):CellsAt W 6 0 qa1:=
 qmn (name:= "tessera/names.basesTable") (k:=.i32) (zs:=[192,214,216,246,248,767,880,893,895,8191,8204,8205,8304,8591,11264,12271,12289,55295,63744,64975,65008,65533,65536,983039]) (l:=tabs) (g:=6) (t:=387) (e:=21) (n:=24)
  Jk Jk Tryz.underlying387 Tryz.underlying21 Jk Jk h (zmc (zmc mh))
theorem q28 {W:World} (h:laidMet Tryz.prog tabs W):CellsAt W 1 0 qgl:=
 qmn (name:= "tessera/sums.nibbles") (k:=.u32) (zs:=nibs.map fun n:Nat=>(n:Int)) (l:=tabs) (g:=1) (t:=242) (e:=45) (n:=16)
  Jk Jk Tryz.underlying242 Tryz.underlying45 Jk Jk h (zmc mh)
theorem qaau {W:World} (h:laidMet Tryz.prog tabs W):qej W:=
 qmn (name:= "tessera/vocab.kinds") (k:=.i64) (zs:=[1,2,3]) (l:=tabs) (g:=0) (t:=129) (e:=3) (n:=3)
  Jk Jk Tryz.underlying129 Tryz.underlying3 Jk Jk h (zmc (zmc (zmc mh)))
theorem etL:Tryz.prog.globalNamed "errors.errorType" = some 2:=by kernel_rfl
theorem rtL:(Tryz.prog.cutTypes.find? (·.1== "internal/reflectlite.rtype")).map (·.2)=some 308:=by kernel_rfl
theorem q70:((List.range Tryz.prog.types.size).filter fun t=>Tryz.prog.rowNamed t [101,114,114,111,114])=[37]:=by kernel_rfl
theorem q67 {W:World} (h:handlesMet Tryz.prog [("errors.errorType",Rows.laid_errors_errorType)] W):ErrTyp W:=by
 obtain ⟨name,u,ty,e1,e2,e3,e4,e5⟩:=h _ (List.mem_singleton.2 rfl);have en:name=[101,114,114,111,114]:=(Option.some.inj e1).symm;subst en;obtain rfl:=Option.some.inj (rtL.symm.trans e2);have hm:ty∈(List.range Tryz.prog.types.size).filter fun t=>Tryz.prog.rowNamed t [101,114,114,111,114]:=List.mem_filter.2 ⟨List.mem_range.2 e3,e4⟩
 rw [q70] at hm;obtain rfl:=List.mem_singleton.1 hm;have hh:typeHandle Tryz.prog 37=.pointer (some ⟨7,37,none⟩):=by kernel_rfl
 rw [hh] at e5;have hc:=World.var?_cell etL e5 0;unfold ErrTyp
 simpa using hc
theorem qab8 {W:World} (h:laidMetH Tryz.prog q7j W) (hsh:W.ShapedOpen Tryz.prog):Glob W:=
 have hp:=qaaw h
 ⟨q7n hsh,qabt hp.1,q28 hp.1,q67 hp.2,qaau hp.1⟩
noncomputable def witP (os:Os):World:=
 let w0:=qaax os [(5,Rows.laid_unicode_utf8_acceptRanges),(1,Rows.laid_tessera_sums_nibbles),(6,Rows.laid_tessera_names_basesTable),(0,Rows.laid_tessera_vocab_kinds),(4,Rows.laid_unicode_utf8_first)]
 { w0 with heap:=w0.heap.modify 2 fun
   | .cells _ t frozen=>.cells #[.iface 308 (.agg #[.pointer (some ⟨7,37,none⟩)])] t frozen
   | o=>o }
theorem andT {a b:Bool} (h:a=true) (k:b=true):(a&&b)=true:=by rw [h,k];rfl
open Go.RowKit V
structure TurnK (l l':LB) (f B j:Nat):Prop where
 len:l'.length=l.length
 bit:∀ t,t<8*l.length→bitN l' t=(bitN l t+(if f≤t∧t<f+j then B/2 ^ (t-f)%2 else 0))%2
theorem TurnK.zero (l:LB) (f B:Nat):TurnK l l f B 0:=⟨rfl,fun t _=>by
 rw [if_neg Oo,Nat.add_zero,bitN,Nat.mod_mod]⟩
theorem TurnK.turn {l l':LB} {f B:Nat} (h:TurnK l l' f B 32):Turn l l' f B:=⟨h.len,h.bit⟩
theorem q96:∀ (r s:Fin 8) (b:Fin 2),(b.val*2 ^ r.val)/2 ^ s.val%2=if s=r then b.val else 0:=by decide +kernel
theorem TurnK.step {l l':LB} {f B j:Nat} (h:TurnK l l' f B j) {p:Nat} (hp:p<l'.length) (hpe:(f+j)/8=p) :
  TurnK l (l'.set p (l'[p] ^^^ UInt8.ofNat (B/2 ^ j%2*2 ^ ((f+j)%8)))) f B (j+1):=by
 have hl:=h.len;refine ⟨by rw [List.length_set,hl],fun t ht=>?_⟩;have hb:=h.bit t ht;have hB:B/2 ^ j%2<2:=Nat.mod_lt _ Od;have hm:(f+j)%8<8:=Nat.mod_lt _ Od;have hs:t%8<8:=Nat.mod_lt _ Od;have hpw:2 ^ ((f+j)%8)≤2 ^ 7:=Nat.pow_le_pow_right Od Oo;have hx:B/2 ^ j%2*2 ^ ((f+j)%8)<256:=by
  have:B/2 ^ j%2*2 ^ ((f+j)%8)≤1*2 ^ 7:=Nat.mul_le_mul Oo hpw;have e:1*2 ^ 7=128:=rfl;omega
 by_cases e:t/8=p
 ·have e1:bitN (l'.set p (l'[p] ^^^ UInt8.ofNat (B/2 ^ j%2*2 ^ ((f+j)%8)))) t=(bitN l' t+B/2 ^ j%2*2 ^ ((f+j)%8)/2 ^ (t%8)%2)%2:=by
   rw [bitN,bitN,e,List.getD_eq_getElem?_getD,List.getElem?_set_self hp,List.getD_eq_getElem?_getD,zge hp,Option.getD_some,Option.getD_some,UInt8.toNat_xor,q9n,qak hx]
  have e2:=q96 ⟨(f+j)%8,hm⟩ ⟨t%8,hs⟩ ⟨B/2 ^ j%2,hB⟩;simp only [Fin.mk.injEq] at e2;rw [e1,e2,hb]
  by_cases c:t%8=(f+j)%8
  ·obtain rfl:t=f+j:=by omega
   rw [if_neg Oo,if_pos rfl,if_pos Oo,show f+j-f=j by omega];omega
  ·rw [if_neg c]
   by_cases d:f≤t∧t<f+j
   ·rw [if_pos d,if_pos Oo];omega
   ·rw [if_neg d,if_neg Oo];omega
 ·have e1:bitN (l'.set p (l'[p] ^^^ UInt8.ofNat (B/2 ^ j%2*2 ^ ((f+j)%8)))) t=bitN l' t:=by
   rw [bitN,bitN,List.getD_eq_getElem?_getD,List.getElem?_set_ne Oo,List.getD_eq_getElem?_getD]
  rw [e1,hb]
  by_cases d:f≤t∧t<f+j
  ·rw [if_pos d,if_pos Oo]
  ·rw [if_neg d,if_neg Oo]
theorem EncOk.packE {T:List TM} {qs:List Q4} (h:EncOk T qs):(packE (encP T qs)).2=0:=by
 have hp:=h.poE;obtain ⟨h1,_,_,_,h5,_⟩:=qgp (l:=encP T qs) (by rw [hp]);rw [Go.Proofs.YtkienlambankeaaGreatDoor.packE,if_neg (fun g=>g h1),h.v,if_neg (fun g=>g h.voc.wE),if_neg (fun g=>g (que h5).1)]
theorem EncOk.parts {T:List TM} {qs:List Q4} (h:EncOk T qs):4≤hN (encP T qs) 4∧4≤hN (encP T qs) 5:=by
 have hd:∀ L:List LB,2≤(qn L).length:=fun L=>by
  have h1:=qec L.length;have h2:=qec (qal L).length;rw [qn];simp only [zla];omega
 have d0:=hd (secE T 0);have d1:=hd (secE T 1);have h4:hN (encP T qs) 4=(vocB T).length:=qhv (by have:=h.size;omega);have h5:hN (encP T qs) 5=(qv (noQ T qs) qs.length).length:=qm1 (by have:=h.size;omega);rw [h4,h5]
 constructor
 ·rw [vocB,jo3];simp only [zla];omega
 ·have v0:=qec (leT (noQ T qs) 0 qs.length);have v1:=qec (leT (noQ T qs) 1 qs.length);have v2:=qec (leT (noQ T qs) 2 qs.length);have v3:=qec (leT (noQ T qs) 3 qs.length);rw [qv];simp only [zla];omega
def frF (V T:Nat) (k:Nat):Int:=if k=0 then 0 else if k=1 then 28 else if k=2 then (32+V:Nat) else (36+V+T:Nat)
theorem qko (qs:List Q4) (A:oA) (n c:Nat) (part at_:Int) (bits:Nat) (w:World) (hS:SlAt qaf 16 w A qs) (hn:qs.length=n) (hb:n≤140737488355328) (_hpt:InR .i64 part) (_hat:InR .i64 at_) (hbi:bits<4294967296)
  (hk:∀ q∈qs,∀ k,InR .i64 (q.at k).kind) (hz:∀ q∈qs,hvQ q≤1152921504606846976) (hG:Glob w) :
  Gv Tryz.prog 8 [.slice A n c,.agg #[ii part,ii at_,.int .u32 bits]] w fun r w'=>r=.bool true∧Ext w w':=by
 refine ze Tryz.func8 Tryz.ntmps8 ?_;refine znm (Mem.nil w) fun t3 w1 hm=>zw ?_;have hm:Mem w w1 [(t3,.cells #[ii part,ii at_,.int .u32 bits] 59)]:=hm;have hG1:=hG.ext hm.ext;refine zcv (qw3 w1 hG1.M hG1.T hG1.N hG1.G hG1.K) ?_;rintro r w2 ⟨rfl,he2⟩;have hm:=hm.call he2;refine zu ?_;refine zcv (qyi qs A n c w2 (hS.ext hm.ext) hn hb hz) ?_;rintro r w3 ⟨h,rfl,hh,he3⟩;have hm:=hm.call he3;cases h with
 | true=>
  refine zu ?_;exact ⟨rfl,hm.ext⟩
 | false=>
 have hh:=hh rfl;have hqo:=qab9 hk hh;have hqn:=hv_n hh;refine zu ?_;have hG3:=hG.ext hm.ext;refine zcv (qk4 qs A n c 67108864 w3 (hS.ext hm.ext) hn hb ⟨by decide,by decide⟩ hqo hG3.M hG3.T hG3.N hG3.G) ?_;rintro r w4 (⟨h0,rfl,he4⟩|⟨h0,v,rfl,hNw⟩)
 ·have hm:=hm.call he4;refine zu ?_;exact ⟨rfl,hm.ext⟩
 obtain ⟨Ab,cb,ev,hcb,hSb⟩:=hNw.bs;subst ev;have hpo:=q5t h0;have hpk:=(qpc h0).packE;have hpts:=(qpc h0).parts;obtain ⟨_,_,_,hpl⟩:=qjf h0;have hpl1:36≤(pkB qs).length:=by rw [qjx];omega
 have epk:encP (tmsQ qs) qs=pkB qs:=rfl;rw [epk] at hpk hpts;obtain ⟨l,el⟩:∃ l,l=pkB qs:=⟨_,rfl⟩
 rw [← el] at hNw hcb hSb hpo hpk hpts hpl hpl1 ⊢;obtain ⟨hnl,g,cur,rfl,hgl,hgb,hcu,hct⟩:=q26 hNw (by intro e;rw [e] at hpl1;simp at hpl1);have hm:=hm.fresh hNw.ext hgl hgb;obtain ⟨_,_,_,_,_,hlen⟩:=qhk (qgp (l:=l) (by rw [hpo])).1;obtain ⟨V4,eV4⟩:∃ V4,V4=hN l 4:=⟨_,rfl⟩
 obtain ⟨V5,eV5⟩:∃ V5,V5=hN l 5:=⟨_,rfl⟩
 refine zu ?_;refine zr hm 1 ?_;refine zt ?_;refine zC (fun _=>zu ?_) (fun _=>zu ?_)
 ·exact ⟨rfl,hm.ext⟩
 have hG4:=hG.ext hm.ext;refine zcv (qzt l (some ⟨g,0,none⟩) cb w4 hSb hcb Oo hG4.N hG4.G) ?_;rintro r w5 ⟨⟨h,_⟩|⟨_,rfl⟩,he5⟩
 ·exact absurd hpk h
 have hm:=hm.call he5;unfold inf4;rw [← eV4,← eV5];(conv=>whnf);refine znm hm fun t7 w6 hm=>zw ?_;refine zS hm 0 fun w7 hm=>zu ?_;refine zr hm 0 ?_;refine zv ?_;refine zr hm 0 ?_;refine zv ?_;refine zr hm 0 ?_;refine zv ?_;refine znm hm fun t9 w8 hm=>zw ?_;refine zS hm 0 ?_;clear hm;intro w9 hm;obtain ⟨t7o,et7⟩:∃ o:Obj,o=.cells #[ii (hN l 2),ii (hN l 3),ii V4,ii V5] 61:=⟨_,rfl⟩
 have hm:Mem w w9 [(t9,.cells (fnA 4 (inF (frF V4 V5))) 43),(t7,t7o),(g,.cells cur 5),(t3,.cells #[ii part,ii at_,.int .u32 bits] 59)]:=by
  have e:(#[ii 0,ii 28,ii (32+(V4:Int)),ii (36+(V4:Int)+(V5:Int))]:Array Value)=fnA 4 (inF (frF V4 V5)):=by
   have e2:(32+(V4:Int))=frF V4 V5 2:=by simp [frF]
   have e3:(36+(V4:Int)+(V5:Int))=frF V4 V5 3:=by simp [frF]
   rw [e2,e3];rfl
  rw [← e,et7];exact hm
 (conv=>whnf);refine zr hm 3 ?_;obtain ⟨pm,hpm,hpm2⟩:=q6h part;refine Wit.eq hpm (zu ?_);obtain ⟨k,hke,hk3⟩:∃ k:Nat,(pm:Int)%3=(k:Int)∧k<3:=⟨pm%3,by omega,Nat.mod_lt _ Oo⟩
 rw [hke];have t1:tsz Tryz.prog 3=1:=by kernel_rfl
 obtain ⟨s0,e0,hs0,he0,hse,hp⟩:∃ s0 e0:Nat,frF V4 V5 k=s0∧frF V4 V5 (k+1)=e0∧s0+8≤e0∧((s0=0∧e0=28)∨(s0=28∧e0=32+V4)∨(s0=32+V4∧e0=36+V4+V5)):=by
  have hV:4≤V4∧4≤V5:=by rw [eV4,eV5];exact hpts
  rcases (show k=0∨k=1∨k=2 by omega) with rfl|rfl|rfl
  ·exact ⟨0,28,rfl,rfl,by omega,.inl ⟨rfl,rfl⟩⟩
  ·exact ⟨28,32+V4,rfl,rfl,by omega,.inr (.inl ⟨rfl,rfl⟩)⟩
  ·exact ⟨32+V4,36+V4+V5,rfl,rfl,by omega,.inr (.inr ⟨rfl,rfl⟩)⟩
 have hel:e0≤l.length:=by omega
 have hf3:frF V4 V5 3=(l.length:Nat):=by
  have:frF V4 V5 3=(36+V4+V5:Nat):=rfl;rw [this];omega
 refine zy ?_;refine zJ 3 ?_;(conv=>whnf);refine zt ?_;refine LoadV.fi hm.drew (i:=0) rfl 3 (by rw [t1]) Od hf3 (zu ?_);refine IdxV.at_ (k+1) Oo Oo (zu ?_);refine LoadV.fi hm.drew (i:=0) rfl (k+1) (by rw [t1];omega) Oo he0 (zu ?_);refine LoadV.fi hm.drew (i:=0) rfl (k) (by rw [t1];omega) Oo hs0 (zu ?_);have hm:=hm.drew;refine zy ?_;refine zv ?_;refine IdxV.at_ (k+1) Oo Oo (zu ?_);refine LoadV.fi hm.drew (i:=0) rfl (k+1) (by rw [t1];omega) Oo he0 (zu ?_);refine LoadV.fi hm.drew (i:=0) rfl (k) (by rw [t1];omega) Oo hs0 (zu ?_);have hm:=hm.drew;refine zr hm 3 ?_;obtain ⟨am,ham,ham2⟩:=q6h at_;refine Wit.eq ham (zu ?_);obtain ⟨sz,esz⟩:∃ sz:Nat,8*((e0:Int)-(s0:Int))-31=(sz:Int):=⟨8*(e0-s0)-31,by omega⟩
 rw [esz];obtain ⟨f0,hf0,hf1⟩:∃ f0:Nat,(am:Int)%(sz:Nat)=(f0:Int)∧f0<sz:=⟨am%sz,(Int.natCast_emod am sz).symm,Nat.mod_lt _ Oo⟩
 rw [hf0];refine zv ?_;obtain ⟨f,ef⟩:∃ f,f=8*s0+f0:=⟨_,rfl⟩
 refine qt (fun j:Nat=>[(3,pp t3),(5,.slice (some ⟨g,0,none⟩) l.length cb),(9,pp t9),(10,ii k),(12,ii f0),(13,ii j)])
  (fun j w'=>j≤32∧∃ l' cur',TurnK l l' f bits j∧cur'.toList.take l'.length=byV l'∧l'.length≤cur'.size∧Mem w w' [(t9,.cells (fnA 4 (inF (frF V4 V5))) 43),(t7,t7o),(g,.cells cur' 5),(t3,.cells #[ii part,ii at_,.int .u32 bits] 59)]) (fun j=>32-j) 0 ⟨rfl,rfl,rfl,rfl,rfl,rfl,trivial⟩ ⟨by omega,l,cur,TurnK.zero l f bits,hct,hcu,hm⟩ ?_
 clear hm hgb hcu hct hSb;rintro j w20 ρ' ⟨j1,l',cur',hT,hct,hcu,hm⟩;have hll:=hT.len;(conv=>whnf);refine zC (fun _=>zu ?_) (fun _=>zu ?_)
 ·have hj32:j<32:=by omega
  obtain ⟨q,eq⟩:∃ q,q=s0+(f0+j)/8:=⟨_,rfl⟩
  have hq:q<l'.length:=by omega
  have hqf:(f+j)/8=q:=by omega
  have hm8:(f+j)%8=(f0+j)%8:=by omega
  have hst:=hT.step hq hqf;refine DrawV.own rfl Jk (zw ?_);(iterate 3 (refine zo ?_));apply StepO.still
  ·intro wd hd;(conv=>whnf);refine LoadV.fi (Mem.call (Mem.drew hm) hd) (i:=0) rfl k (by rw [t1];omega) Oo hs0 (zw ?_);exact PostO.still xr rfl
  (conv=>whnf);(iterate 3 (refine zo ?_));have eqI:((s0:Int)+((f0:Int)+(j:Int))/8)=(q:Int):=by omega
  rw [eqI];apply StepO.still
  ·intro wd hd;(conv=>whnf);refine ElemV.own1 q rfl Oo (zw ?_);exact PostO.still xr rfl
  (conv=>whnf);apply StepO.still
  ·intro wd hd;(conv=>whnf);refine LoadV.mem (Mem.call (Mem.drew hm) hd) (i:=2) rfl (q41 hct hq) (zw ?_);exact PostO.still xr rfl
  (conv=>whnf);refine zo ?_;refine zO ?_ (by intro wd hd;(conv=>whnf);refine LoadV.mem (Mem.call (Mem.drew hm) hd) (i:=3) rfl rfl ?_;(conv=>whnf);exact PostO.still xr rfl);(conv=>whnf);refine zo ?_;apply StepO.still
  ·intro wd hd;(conv=>whnf);refine V.Wit.shrN j rfl (by show j<32;omega) (zw ?_);exact PostO.still xr rfl
  (conv=>whnf);have hbj:bits/2 ^ j<4294967296:=Nat.lt_of_le_of_lt (Nat.div_le_self _ _) hbi;obtain ⟨bj,ebj⟩:∃ bj,bj=bits/2 ^ j:=⟨_,rfl⟩
  rw [← ebj] at hbj hst ⊢;have hpw:2 ^ ((f0+j)%8)≤2 ^ 7:=Nat.pow_le_pow_right Od Oo;have hxb:bj%2*2 ^ ((f0+j)%8)<256:=by
   have:bj%2*2 ^ ((f0+j)%8)≤1*2 ^ 7:=Nat.mul_le_mul Oo hpw;have e:1*2 ^ 7=128:=rfl;omega
  have hxo:(UInt8.ofNat (bj%2*2 ^ ((f0+j)%8))).toNat=bj%2*2 ^ ((f0+j)%8):=qak hxb;rw [hm8] at hst;apply StepO.still
  ·intro wd hd;(conv=>whnf);refine Wit.eq (qa9 (k:=.u32) (m:=bj) 1 rfl ⟨by omega,by show (bj:Int)≤4294967295;omega⟩ ⟨by omega,by show (1:Int)≤4294967295;omega⟩) (zw ?_);exact PostO.still xr rfl
  (conv=>whnf);rw [show (2:Nat) ^ 1=2 from rfl];(iterate 3 (refine zo ?_));have em8:((f0:Int)+(j:Int))%8=(((f0+j)%8:Nat):Int):=by omega
  rw [em8];apply StepO.still
  ·intro wd hd;(conv=>whnf);refine V.Wit.shlN ((f0+j)%8) rfl (by show (f0+j)%8<8;omega) (qc3 hxb) (zw ?_);exact PostO.still xr rfl
  (conv=>whnf);rw [← hxo];apply StepO.still
  ·intro wd hd;(conv=>whnf);refine Wit.eq (xor8 _ _) (zw ?_);exact PostO.still xr rfl
  (conv=>whnf);apply StepO.still
  ·intro wd hd;(conv=>whnf);refine ElemV.own1 q rfl Oo (zw ?_);exact PostO.still xr rfl
  (conv=>whnf);intro w21 hd21
  (repeat (intro _;(conv=>whnf)))
  (conv=>whnf);refine StoreV.mem (hm.drew.call hd21) (i:=2) rfl Oo rfl fun w22 hm=>zu ?_;refine ⟨j+1,⟨rfl,rfl,rfl,rfl,rfl,congrArg (Value.int .i64) Oo,trivial⟩,⟨by omega,_,_,hst,q6s hct q _,?_,hm⟩,by omega⟩;rw [List.length_set,Array.size_setIfInBounds];exact hcu
 ·obtain rfl:j=32:=by omega
  have hbad:(poE l').2≠0:=by
   refine hT.turn.poE (by rw [hpo]) hbi Oo ?_;rw [← eV4,← eV5];omega
  have hSl:=q97 (hm.get (zmg (i:=2) rfl)) hct;have hG20:=hG.ext hm.ext;have hpo20:=qpe l' (some ⟨g,0,none⟩) cb w20 hSl Oo Oo hG20.N hG20.G hG20.M hG20.T hG20.K;rw [hll] at hpo20;refine zcv (hpo20) ?_;rintro r w21 ⟨⟨_,ev5,rfl,be5,rfl,hbe5⟩|⟨h,_⟩,he21⟩
  case inr=>exact absurd h hbad
  refine zu ?_;exact ⟨rfl,hm.ext.trans he21⟩
end Go.Proofs.YtkienlambankeaaGreatDoor
