/- Lemmas and contracts of functions on the way to the law's card (part 11 of 16). -/
import Derived.Test.YtccmcfpmknpccaaGreatDoorSB10
import Derived.Lib.AppendStr
import Derived.Shelf.SlSortCmp.WholeK
import Derived.Test.YtccmcfpmknpccaaGreatDoorProg
import Derived.Shelf.SlSortCmp.NoneTotal
namespace Go.Proofs.YtccmcfpmknpccaaGreatDoor
set_option maxHeartbeats 8000000
open Go.RowKit V
set_option maxHeartbeats 8000000
set_option maxRecDepth 100000
variable {w w' w0:Dc} {b base c i j k m nb r wd:Nat} {l s:LB} {F ps:Dn} {A:oA} {e ty:Df} {L:Dl} {args xs:Dm} {Fs:List Dn} {P:De} {x z:Dh} {fr:Nat×Nat} {K:Di} {f:FuncId}
def bufO(v:Dh)(m:Nat)(f:Bool):Obj:=.cells #[v,ii m,.bool f] 339
structure BufAt(w:Dc)(b m:Nat)(l:LB)(F:Dn):Prop where
 h:∃A c xs f,w.heap[b]?=some (bufO (.slice A xs.length c) m f)/\w.ownsRow 0 5 1 (.slice A xs.length c) xs.length (byV xs)/\b∉rowF (.slice A xs.length c)/\xs.length<=m/\f=decide (m<l.length)/\(f=false->xs=l)/\F=b::rowF (.slice A xs.length c)
theorem BufAt.lt(h:BufAt w b m l F):∀k∈F,k<w.heap.size:=by
 obtain⟨A,c,xs,f,O,U,_,_,_,_,rfl⟩:=h.h;intro k H
 rcases Aw.1 H with rfl|H
 ·exact qb1 O
 ·exact(qhu U k H).2
theorem BufAt.keep(h:BufAt w b m l F)(H:∀k∈F,w'.heap[k]?=w.heap[k]?):BufAt w' b m l F:=by
 obtain⟨A,c,xs,f,O,U,W,Z,h3,h4,rfl⟩:=h.h;exact⟨A,c,xs,f,by rw[H b mh];exact O,qal U λk h=>H k (zmc h),W,Z,h3,h4,rfl⟩
theorem BufAt.call(h:BufAt w b m l F)(H:Ext w w'):BufAt w' b m l F:=
 h.keep λk O=>H.block k (h.lt k O)
structure BufC(w w':Dc)(b m:Nat)(l:LB)(F:Dn):Prop where
 chg:Chn F w w'
 h:∃F',BufAt w' b m l F'/\∀k∈F',(k∈F\/w.heap.size<=k)/\k<w'.heap.size
theorem BufC.back(h:BufC w w' b m l F)(H:Ext w0 w):BufC w0 w' b m l F:=by
 obtain⟨W,Z,O⟩:=h.h;exact⟨(Chn.of F H).trans h.chg,W,Z,λk U=>⟨(O k U).1.imp id λg=>A4 H.size g,(O k U).2⟩⟩
theorem qee(m:Int)(w:Dc):
  Gv Do 114 [ii m] w λr w'=>∃b,r=pp b/\Ext w w'/\w.heap.size<=b/\BufAt w' b (max m 0).toNat [] [b]:=by
 refine ze Tryz.func114 Tryz.ntmps114 ?_;refine V.Fall.max2 rfl rfl rfl λk W=>?_;have H:k=((max m 0).toNat:Nat):=by omega
 subst H;(conv=>whnf);refine⟨λb w' O U=>?_⟩;subst O U;(conv=>whnf);refine⟨w.heap.size,rfl,(Ext.refl w).alloc _,Ao _,⟨none,0,[],false,heap_alloc_new w _,World.ownsRow_nil _ _ _ _,by simp[rowF,Value.ownBlock],An _,?_,λ_=>rfl,by simp[rowF,Value.ownBlock]⟩⟩;rw[eq_comm,decide_eq_false_iff_not];simp
theorem qcq(b m:Nat)(l x:LB)(F:Dn)(B:oA)(n d:Nat)(w:Dc)(h:BufAt w b m l F)(hS:SlAt encB 1 w B x)(hn:x.length=n)(hm:m<=9223372036854775807)(hl:l.length+x.length<=8000000000000):
  Gv Do 118 [pp b,.slice B n d] w λr w'=>r=.tuple #[]/\BufC w w' b m (l++x) F:=by
 subst hn;obtain⟨A,c,xs,f,hb,ho,Z,ad,hf,ai,rfl⟩:=h.h;have he:Ext w w.drew:=(Ext.refl w).drew;have U:=he.get hb;have aa:w.drew.ownsRow 0 5 1 (.slice A xs.length c) xs.length (byV xs):=qal ho λk H=>he.block k (qhu ho k H).2
 have aj:=hS.ext he;have ak:=qb1 hb;have ae:∀k∈b::rowF (.slice A xs.length c),(k∈b::rowF (.slice A xs.length c)\/w.heap.size<=k)/\k<w.heap.size:=λk H=>⟨.inl H,h.lt k H⟩
 have ab:(l++x).length=l.length+x.length:=zla;cases f with
 | true=>
  have hf:m<l.length:=BB hf.symm;refine ze Tryz.func118 Tryz.ntmps118 ?_;refine zy ?_;refine zv ?_;refine LoadV.own hb rfl (zu ?_);refine LoadV.own hb rfl (zw ?_);refine zt ?_;refine zC (λ_=>zw ?_) (λ_=>zw ?_)
  ·refine StoreV.own U (show 2<3 by decide) rfl ?_;intro w2 hw;obtain⟨O,W⟩:=Chn.set U hw;refine LoadV.own W rfl (zu ?_);have hs:=(he.size:w.heap.size<=w.drew.heap.size)
   have H:∀k∈rowF (.slice A xs.length c),w2.heap[k]?=w.drew.heap[k]?:=λk H=>O.block k (qhu aa k H).2 λg=>Z (by rw[<-Ac.1 g];exact H)
   refine⟨rfl,(Chn.of _ he).trans (O.mono λk H=>by rw[Ac.1 H];exact AD ..),_,⟨A,c,xs,true,W,qal aa H,Z,ad,?_,(λg=>(by cases g)),rfl⟩,λk H=>⟨.inl H,AE (ae k H).2 (A4 hs O.size)⟩⟩;rw[eq_comm,decide_eq_true_iff];omega
  ·refine LoadV.own U rfl (zu ?_);refine⟨rfl,Chn.of _ he,_,⟨A,c,xs,true,U,aa,Z,ad,?_,(λg=>(by cases g)),rfl⟩,λk H=>⟨.inl H,AE (ae k H).2 he.size⟩⟩;rw[eq_comm,decide_eq_true_iff];omega
 | false=>
  have hf:¬m<l.length:=of_decide_eq_false hf.symm;obtain rfl:=ai rfl;refine ze Tryz.func118 Tryz.ntmps118 ?_;refine zy ?_;refine zv ?_;refine LoadV.own hb rfl (zu ?_);refine LoadV.own hb rfl (zw ?_);refine zt ?_;refine zC (λ_=>zw ?_) (λ_=>zw ?_)
  ·refine StoreV.own U (show 2<3 by decide) rfl ?_;intro w2 hw;obtain⟨O,W⟩:=Chn.set U hw;refine LoadV.own W rfl (zu ?_);have hs:=(he.size:w.heap.size<=w.drew.heap.size)
   have H:∀k∈rowF (.slice A xs.length c),w2.heap[k]?=w.drew.heap[k]?:=λk H=>O.block k (qhu aa k H).2 λg=>Z (by rw[<-Ac.1 g];exact H)
   refine⟨rfl,(Chn.of _ he).trans (O.mono λk H=>by rw[Ac.1 H];exact AD ..),_,⟨A,c,xs,true,W,qal aa H,Z,ad,?_,(λg=>(by cases g)),rfl⟩,λk H=>⟨.inl H,AE (ae k H).2 (A4 hs O.size)⟩⟩;rw[eq_comm,decide_eq_true_iff];omega
  ·refine LoadV.own U rfl (zu ?_);refine LoadV.own U rfl ?_;refine AppV.bys que bytI bytZ Jk rfl (by decide +kernel) aa aj hl ?_;intro A' c' w2 al O af;have W:=O.block b (AE ak he.size) Z;rw[U]at W;refine StoreV.own W (show 0<3 by decide) rfl ?_;intro w3 hw;obtain⟨ag,am⟩:=Chn.set W hw;have ac:b∉rowF (.slice A' (xs.length+x.length) c'):=λg=>by
    rcases(af b g).1 with g|g
    ·exact Z g
    ·have:=he.size;omega
   have ah:=qal al (w':=w3) λk H=>ag.block k (af k H).2 λg=>ac (by rw[<-Ac.1 g];exact H)
   refine⟨rfl,((Chn.of _ he).trans (O.mono λk H=>zmc H)).trans (ag.mono λk H=>by rw[Ac.1 H];exact AD ..),b::rowF (.slice A' (xs.length+x.length) c'),⟨A',c',xs++x,false,?_,?_,?_,by rw[ab];omega,?_,λ_=>rfl,?_⟩,λk H=>?_⟩
   ·rw[ab];exact am
   ·rw[ab]at ah|-;exact ah
   ·rw[ab];exact ac
   ·rw[eq_comm,decide_eq_false_iff_not];omega
   ·rw[ab]
   ·have an:=ag.size;have ao:=O.size;have aq:=he.size
    rcases Aw.1 H with rfl|H
    ·exact⟨.inl mh,by omega⟩
    ·obtain⟨g1,g2⟩:=af k H;exact⟨g1.imp (zmc) λg=>by omega,by omega⟩
theorem qach{x:Nat}{t:Df}(U:x<256)(h:w.heap[nb]?=some (.cells #[.int .u8 x] t)):SlAt encB 1 w (some ⟨nb,0,none⟩) [UInt8.ofNat x]:=by
 refine⟨λ_=>⟨nb,0,rfl,λj y O k v H=>?_⟩⟩;cases j with
 | succ j=>cases O
 | zero=>
  cases O;cases k with
  | succ k=>simp[encB]at H
  | zero=>
   simp only[encB,Bb,AN]at H;rw[qa h,<-H,qar U];rfl
theorem q2f(b m:Nat)(l:LB)(x:Nat)(F:Dn)(w:Dc)(h:BufAt w b m l F)(Z:x<256)(hm:m<=9223372036854775807)(hl:l.length+1<=8000000000000):
  Gv Do 193 [pp b,.int .u8 x] w λr w'=>r=.tuple #[]/\BufC w w' b m (l++[UInt8.ofNat x]) F:=by
 refine ze Tryz.func193 Tryz.ntmps193 ?_;refine⟨λnb H O U=>?_⟩;have W:Ext w H:=by rw[U];exact(Ext.refl w).alloc _
 have hc:H.heap[nb]?=some (.cells #[.int .u8 x] 5):=by rw[U,O];exact heap_alloc_new w _
 (conv=>whnf);refine zcv (qcq b m l [UInt8.ofNat x] F (some ⟨nb,0,none⟩) 1 1 H (h.call W) (qach Z hc) rfl hm hl) ?_;rintro r w2 ⟨rfl,hB⟩;(conv=>whnf);exact⟨rfl,hB.back W⟩
theorem qac5:∀x,x<256->x |||128=x%128+128:=by decide +kernel
theorem qud(n:Nat):qdo .or .u8 ((n%256:Nat):Int) 128=((n%128+128:Nat):Int):=by
 have e:=qac5 (n%256) (Cb _ Od);have H:n%256%128=n%128:=by omega
 rw[show(128:Int)=((128:Nat):Int)from rfl,qpi (qdt (Cb _ Od)) (qdt Od) (qdt (by rw[e];omega)),e,H]
theorem qacc{n:Nat}{H:LB}(h:Rw w0 w (.slice A n c) e 1 n (byV H) L)(O:H.length=n):SlAt encB 1 w A H:=by
 obtain⟨Z,c',U,_,W⟩:=Rw.byts h O;cases U;exact W
theorem qbr(b m:Nat)(l:LB)(n:Nat)(F:Dn)(w:Dc)(h:BufAt w b m l F)(hn:n<18446744073709551616)(hm:m<=9223372036854775807)(hl:l.length+16<=8000000000000):
  Gv Do 187 [pp b,.int .u64 n] w λr w'=>r=.tuple #[]/\BufC w w' b m (l++varL n) F:=by
 have hv:=qbc 9 n (AE hn Od);refine ze Tryz.func187 Tryz.ntmps187 ?_;refine qm (λx:oA×Nat×LB×Nat=>[(0,pp b),(1,.int .u64 x.2.2.2),(4,.slice x.1 x.2.2.1.length x.2.1)])
  (λx w2=>x.2.2.2<18446744073709551616/\varL n=x.2.2.1++varL x.2.2.2/\Rw w w2 (.slice x.1 x.2.2.1.length x.2.1) 5 1 x.2.2.1.length (byV x.2.2.1) []) (λx=>x.2.2.2) (none,0,[],n) fq ⟨hn,rfl,Rw.nil (Mem.nil w)⟩ ?_
 rintro⟨A,c,H,k⟩ w2 aa ⟨h1,h2,hR⟩;dsimp only at h1 h2 hR|-;have hp:=q5h k;have ab:H.length+(varL k).length<=10:=by have:=Ad List.length h2;rw[zla]at this;omega
 (conv=>whnf);refine zC (λ_=>zu ?_) (λ_=>zu ?_)
 ·refine V.Wit.low8 ?_;refine Wit.eq (qud k) ?_;refine NewV.rw hR ?_;intro nb w4 O;refine AppV.one que bytI bytZ Jk rfl (by decide +kernel) O rfl Oo ?_;intro Z d' w5 U;(conv=>whnf);refine V.Wit.shrN 7 rfl Od ?_;have hk:128<=k:=by omega
  have e:(H++[UInt8.ofNat (k%128+128)]).length=H.length+1:=by simp
  refine⟨(Z,d',H++[UInt8.ofNat (k%128+128)],k/128),⟨rfl,rfl,by show Value.slice _ _ _=_;rw[e],trivial⟩,⟨by simp only;omega,?_,?_⟩,by simp only;omega⟩
  ·rw[h2,qen hk,Au];rfl
  ·show Rw w w5 (.slice Z (H++[UInt8.ofNat (k%128+128)]).length d') _ 1 _ _ _;rw[e,byV,AY,AG,Co,qar Oo];exact U
 ·have hk:k<128:=by omega
  refine NewV.rw hR ?_;intro nb w4 O;refine AppV.one que bytI bytZ Jk rfl (by decide +kernel) O rfl Oo ?_;intro Z d' w5 U;have e:(H++[UInt8.ofNat k]).length=H.length+1:=by simp
  have W:Rw w w5 (.slice Z (H.length+1) d') 5 1 (H.length+1) (byV (H++[UInt8.ofNat k])) []:=by
   rw[byV,AY,AG,Co,qar Oo];exact U
  have e2:varL n=H++[UInt8.ofNat k]:=by rw[h2,qeo hk]
  (conv=>whnf);refine zcv (qcq b m l (varL n) F Z (H.length+1) d' w5 (h.call W.mem.ext) (by rw[e2];exact qacc W e) (by rw[e2,e]) hm Oo) ?_;rintro r w6 ⟨rfl,hB⟩;(conv=>whnf);exact⟨rfl,hB.back W.mem.ext⟩
theorem qkb(b m:Nat)(l:LB)(n:Nat)(F:Dn)(w:Dc)(h:BufAt w b m l F)(_:n<18446744073709551616)(hm:m<=9223372036854775807)(hl:l.length+16<=8000000000000):
  Gv Do 116 [pp b,.int .u64 n,ii 4] w λr w'=>r=.tuple #[]/\BufC w w' b m (l++fixL n 4) F:=by
 refine ze Tryz.func116 Tryz.ntmps116 ?_;refine zcv (qkr w) ?_;rintro r Z ⟨rfl,rfl⟩;refine qm (λx:Nat×oA×Nat=>[(0,pp b),(1,.int .u64 n),(6,.slice x.2.1 x.1 x.2.2),(9,ii 4),(10,ii x.1)])
  (λx O=>x.1<=4/\Rw Z O (.slice x.2.1 x.1 x.2.2) 5 1 x.1 (byV (fixL n x.1)) []) (λx=>4-x.1) (0,none,0) fq ⟨by simp,Rw.nil (Mem.nil Z)⟩ ?_
 rintro⟨i,A,c⟩ O aa ⟨h1,H⟩;dsimp only at h1 H|-;(conv=>whnf);refine zC (λ_=>zu ?_) (λ_=>zu ?_)
 ·refine V.Wit.shrN (8*i) Oo (by show 8*i<64;omega) ?_;refine V.Wit.low8 ?_;refine NewV.rw H ?_;intro nb w4 U;refine AppV.one que bytI bytZ Jk rfl (by decide +kernel) U rfl Oo ?_;intro B' d' w5 W;refine zu ?_;refine⟨(i+1,B',d'),fq,⟨by simp only;omega,?_⟩,by simp only;omega⟩;simp only[fixL,byV,AY,AG,Co];have e:(UInt8.ofNat (n/2 ^ (8*i)%256)).toNat=n/2 ^ (8*i)%256:=by simp
  rw[e];exact W
 ·obtain rfl:i=4:=by omega
  refine zcv (qcq b m l (fixL n 4) F A 4 c O (h.call H.mem.ext) (qacc H (qh n 4)) (qh n 4) hm (by rw[qh];omega)) ?_;rintro r w6 ⟨rfl,hB⟩;(conv=>whnf);exact⟨rfl,hB.back H.mem.ext⟩
theorem q2c(b m:Nat)(l:LB)(F:Dn)(w:Dc)(h:BufAt w b m l F):
  Gv Do 253 [pp b] w λr w'=>(∃k:Nat,r=ii k/\k<=m/\(l.length<=m->k=l.length))/\w'=w:=by
 obtain⟨A,c,xs,f,U,ho,W,H,Z,O,rfl⟩:=h.h;refine ze Tryz.func253 Tryz.ntmps253 ?_;refine LoadV.own U rfl (zw ?_);refine⟨⟨xs.length,rfl,H,λg=>?_⟩,rfl⟩;rw[O (by rw[Z];exact Be Oo)]
theorem qua(l:LB)(A:oA)(n c:Nat)(w:Dc)(hS:SlAt encB 1 w A l)(hn:l.length=n)(hl:l.length<=8000000000000):
  Gv Do 197 [.slice A n c] w λr w'=>∃U W,r=.slice U l.length W/\Ext w w'/\w'.ownsRow w.heap.size 5 1 (.slice U l.length W) l.length (byV l):=by
 subst hn;cases A with
 | none=>
  have Z:l=[]:=by
   cases l with
   | nil=>rfl
   | cons x r=>obtain⟨b,ab,Z,_⟩:=hS.at_ Js;cases Z
  subst Z;refine ze Tryz.func197 Tryz.ntmps197 ?_;refine zv ?_;exact⟨none,0,rfl,Ext.refl w,World.ownsRow_nil _ _ _ _⟩
 | some a=>
  refine ze Tryz.func197 Tryz.ntmps197 ?_;refine zv ?_;refine⟨λnb w1 O hw=>?_⟩;have he:Ext w w1:=by rw[hw];exact(Ext.refl w).alloc _
  have hc:w1.heap[nb]?=some (.cells #[] 5):=by rw[hw,O];exact heap_alloc_new w _
  have ho:w1.ownsRow w.heap.size 5 1 (.slice (some ⟨nb,0,none⟩) 0 0) 0 []:=⟨rfl,.inr ⟨nb,0,#[],rfl,by omega,hc,Ao _,An _,rfl,rfl⟩⟩
  refine AppV.own (news:=byV l) que bytI bytZ Jk rfl Od ho he.size (by rw[qao];exact(Bw _).symm) (qry (hS.ext he)) (λu hu=>?_) (A4 (Bz (by rw[Aq];exact hl) (show _<=16 by decide +kernel)) Od) Oo ?_
  ·simp only[byV,AI]at hu;obtain⟨v,_,rfl⟩:=hu;rfl
  ·intro v' w2 H hg _;have H:w2.ownsRow w.heap.size 5 1 v' l.length (byV l):=by rw[Aq]at H;exact H
   obtain⟨U,W,rfl⟩:=qbn H;(conv=>whnf);refine⟨U,W,rfl,(Chn.grown hg).ext he λk hk=>?_,H⟩;rw[Ac.1 hk,O];exact Ao _
theorem qwp(A:oA)(n c:Nat)(H:n<=c)(O:A=none\/∃g o,A=some ⟨g,o,none⟩)(w:Dc):Gv Do 196 [.slice A n c] w λv w'=>v=.slice A n n/\w'=w:=by
 refine ze Tryz.func196 Tryz.ntmps196 ?_;refine⟨0,n,n,rfl,rfl,rfl,An _,Ao _,H,λ_=>rfl,λU e=>?_⟩;have W:U=A:=by
  rw[e]
  split
  ·rfl
  ·rcases O with rfl|⟨g,o,rfl⟩
   ·rfl
   ·simp[Addr.add]
 subst W;(conv=>whnf);exact⟨rfl,rfl⟩
theorem qcj(b m:Nat)(l:LB)(F:Dn)(w:Dc)(h:BufAt w b m l F)(hl:l.length<=8000000000000):
  Gv Do 117 [pp b] w λr w'=>(m<l.length/\r=.tuple #[.slice none 0 0,ii 1]/\w'=w)\/(l.length<=m/\∃v,r=.tuple #[v,ii 0]/\NewS 5 w w' v l):=by
 obtain⟨A,c,xs,f,W,ho,ab,ac,Z,aa,rfl⟩:=h.h;cases f with
 | true=>
  refine ze Tryz.func117 Tryz.ntmps117 ?_;refine LoadV.own W rfl (zu ?_);exact .inl ⟨BB Z.symm,rfl,rfl⟩
 | false=>
  have Z:¬m<l.length:=of_decide_eq_false Z.symm;obtain rfl:=aa rfl;have hS:SlAt encB 1 w A xs:=by
   obtain⟨U,c',H,_,h2⟩:=qs7 ho;cases H;exact h2
  refine ze Tryz.func117 Tryz.ntmps117 ?_;refine LoadV.own W rfl (zu ?_);refine LoadV.own W rfl (zw ?_);refine zcv (qua xs A _ c w hS rfl hl) ?_;rintro r w1 ⟨U,c',rfl,he,O⟩;have hc:xs.length<=c'/\(U=none\/∃g o,U=some ⟨g,o,none⟩):=by
   rcases O.2 with⟨H,e2⟩|⟨g,ad,cur,H,_,_,h3,_⟩
   ·injection H with a1 a2 a3;exact⟨by omega,.inl a1⟩
   ·injection H with a1 a2 a3;exact⟨by omega,.inr ⟨g,0,a1⟩⟩
  (conv=>whnf);refine zcv (qwp U xs.length c' hc.1 hc.2 w1) ?_;rintro r w2 ⟨rfl,rfl⟩;(conv=>whnf);exact .inr ⟨by omega,_,rfl,NewS.of he O _ znr hc.1⟩
open Go.RowKit
namespace V
theorem qcg{H n:Nat}{v:Dh}(h:w.ownsRow base e H v n xs)(O:Ext w w'):w'.ownsRow base e H v n xs:=
 qal h λk U=>O.block k (qhu h k U).2
end V
namespace V
structure SepC(w0 w w':Dc)(Fs:List Dn)(i:Nat)(F':Dn):Prop where
 sep:Sep w0 w' (Fs.set i F')
 size:w.heap.size<=w'.heap.size
 keep:∀(j:Nat) (G:Dn),Fs[j]?=some G->j≠i->∀k∈G,w'.heap[k]?=w.heap[k]?
theorem Sep.row(h:Sep w0 w Fs){F':Dn}(O:Fs[i]?=some F)(H:Chn F w w')(U:∀k∈F',(k∈F\/w.heap.size<=k)/\k<w'.heap.size):SepC w0 w w' Fs i F':=
 ⟨h.chg O H U,H.size,λj G W Z=>h.keep O H W Oo⟩
theorem Sep.buf(h:Sep w0 w Fs)(U:Fs[i]?=some F)(O:BufC w w' b m l F):∃H,SepC w0 w w' Fs i H/\BufAt w' b m l H:=by
 obtain⟨H,W,Z⟩:=O.h;exact⟨H,h.row U O.chg Z,W⟩
theorem AppV.cell{e:Nat}{v:Dh}{n:Nat}{t e2:Df}{i:TypeInfo}(ht:P.underlying t=some (.slice e))(hi:P.info? e=some i)(hz:i.zero=some z)(H:i.size=1)(O:z.cells.size=1)(U:i.bytes<=16)(h:w.ownsRow 0 e 1 v n xs)(hb:w.heap[nb]?=some (.cells #[x] e2 fr))(hx:x.oneCell'=true)(hn:n+1<=8000000000000)(hk:∀W Z w',w'.ownsRow 0 e 1 (.slice W (n+1) Z) (n+1) (xs++[x])->Chn (rowF v) w w'->(∀k∈rowF (.slice W (n+1) Z),(k∈rowF v\/w.heap.size<=k)/\k<w'.heap.size)->K (.slice W (n+1) Z) w'):AppV P #[t,t] ty v (.slice (some ⟨nb,0,none⟩) 1 1) w K:=by
 refine AppV.row (news:=[x]) ht hi hz H O Od h rfl (λ_=>⟨nb,0,rfl,λk v hv=>?_⟩) (by grind) (A4 (Bz hn U) Od) Oo hk;rw[qa hb,Aq]
 simpa using hv
theorem NewBytesV.sl{s:Dd}(hk:∀b H w',s.size<=H->Ext w w'->SlAt encB 1 w' (some ⟨b,0,none⟩) s.data.toList->K (.slice (some ⟨b,0,none⟩) s.size H) w'):NewBytesV s e w K:=by
 refine⟨λH O b w' hc U hb Z=>hk b H w' hc ?_ ⟨λhn=>⟨b,0,rfl,λj x hx k v W=>?_⟩⟩⟩
 ·rw[Z];exact((Ext.refl w).drew).alloc _
 ·cases k with
  | succ k=>simp[encB]at W
  | zero=>
   simp only[encB,Bb,AN]at W;subst W;have hg:w'.heap[b]?=some (.cells O e (O.size,O.size+1)):=by rw[Z,hb];exact heap_alloc_new w.drew _
   rw[qa hg,U]
   grind [byteCells]
structure BufS(w0 w:Dc)(b m:Nat)(l:LB):Prop where
 h:∃F,Sep w0 w [F]/\BufAt w b m l F
theorem BufS.ext(h:BufS w0 w b m l):Ext w0 w:=h.h.elim λ_ h=>h.1.ext
theorem BufS.new(H:Ext w0 w)(O:Ext w w')(U:w.heap.size<=b)(h:BufAt w' b m [] [b]):BufS w0 w' b m []:=
 ⟨[b],(Sep.of H).add O λk W=>by rw[Ac.1 W];exact⟨U,h.lt b Js⟩,h⟩
theorem BufS.step(h:BufS w0 w b m l){H:LB}(O:∀F,BufAt w b m l F->Gv P f args w λr w'=>r=.tuple #[]/\BufC w w' b m H F):
  Gv P f args w λr w'=>r=.tuple #[]/\BufS w0 w' b m H:=by
 obtain⟨F,U,W⟩:=h.h;refine(O F W).mono ?_;rintro r w' ⟨e,Z⟩;obtain⟨F',h3,h4⟩:=U.buf (i:=0) rfl Z;exact⟨e,F',h3.sep,h4⟩
end V
theorem qw0{f:Nat->Nat}(H:r<=8)(h:∀s,r<=s->s<8->f (8*b+s)%2=0):byt f b<2 ^ r:=by
 have O:r<=0->f (8*b)%2=0:=λg=>h 0 g Od
 grind [byt]
theorem qr0{f g:Nat->Nat}(H:r<8)(h:∀s,s<8->s≠r->f (8*b+s)%2=g (8*b+s)%2)(O:f (8*b+r)%2=0):byt g b=byt f b+g (8*b+r)%2*2 ^ r:=by
 have U:0≠r->f (8*b)%2=g (8*b)%2:=λe=>h 0 Od e
 have W:1≠r->f (8*b+1)%2=g (8*b+1)%2:=λe=>h 1 Od e
 have Z:2≠r->f (8*b+2)%2=g (8*b+2)%2:=λe=>h 2 Od e
 have k3:3≠r->f (8*b+3)%2=g (8*b+3)%2:=λe=>h 3 Od e
 have k4:4≠r->f (8*b+4)%2=g (8*b+4)%2:=λe=>h 4 Od e
 have k5:5≠r->f (8*b+5)%2=g (8*b+5)%2:=λe=>h 5 Od e
 have k6:6≠r->f (8*b+6)%2=g (8*b+6)%2:=λe=>h 6 Od e
 have k7:7≠r->f (8*b+7)%2=g (8*b+7)%2:=λe=>h 7 Od e
 grind [byt]
theorem qpj{f g:Nat->Nat}(h:∀s,s<8->f (8*b+s)%2=g (8*b+s)%2):byt f b=byt g b:=by
 have H:f (8*b)%2=g (8*b)%2:=h 0 Od
 grind [byt]
theorem qiu{f g:Nat->Nat}(h:∀t,t<8*m->f t%2=g t%2):qbz f m=qbz g m:=by
 refine C0 λb H=>?_
 grind [qpj]
theorem qh8{f:Nat->Nat}(h:b<m):(byV (qbz f m))[b]?=some (.int .u8 (byt f b)):=by
 grind [byV,qbz,qar,qrz]
theorem qnb{f g:Nat->Nat}{e:Nat}(_:e<8*m)(h:∀t,t<8*m->t≠e->f t%2=g t%2):(byV (qbz f m)).set (e/8) (.int .u8 (byt g (e/8)))=byV (qbz g m):=by
 have O:∀f,(byV (qbz f m)).length=m:=λf=>by rw[qao,qc6]
 apply Bi
 grind [qh8,qpj]
def upF(F:Nat->Nat)(e t:Nat):Nat:=if t<e then F t else 0
theorem qaah(F:Nat->Nat)(e:Nat):byt (upF F e) (e/8)<2 ^ (e%8):=
 qw0 Oo λs H O=>by grind [upF]
theorem q5b(F:Nat->Nat)(e:Nat):byt (upF F (e+1)) (e/8)=byt (upF F e) (e/8)+F e%2*2 ^ (e%8):=by
 grind [qr0,upF]
theorem qaai{F:Nat->Nat}{e:Nat}(H:e<8*m):(byV (qbz (upF F e) m)).set (e/8) (.int .u8 (byt (upF F e) (e/8)+F e%2*2 ^ (e%8):Nat))=byV (qbz (upF F (e+1)) m):=by
 rw[<-q5b]
 grind [qnb,upF]
theorem q5c(F:Nat->Nat)(m:Nat):byV (qbz (upF F 0) m)=qcu [Value.int .u8 0] m:=by
 grind [qwg,List.eq_replicate_iff,qao,qc6,List.mem_iff_getElem?,qh8,byt,upF]
theorem q6i{f:Nat->Nat}(e x:Nat):qdo .or .u8 ((byt (upF f e) (e/8):Nat):Int) ((x%2*2 ^ (e%8):Nat):Int)=((byt (upF f e) (e/8)+x%2*2 ^ (e%8):Nat):Int):=by
 have H:=qaah f e;have O:2 ^ (e%8)<=2 ^ 7:=AQ Od Oo;have U:x%2*2 ^ (e%8)<=1*2 ^ (e%8):=Bc _ Oo;refine qbp (k:=.u8) (e%8) (qdt ?_) H;omega
theorem q31(l:Dn)(w:Nat):qbz (upF (λt=>l.getD (t/w) 0/2 ^ (t%w)) (l.length*w)) ((l.length*w+7)/8)=qc2 l w:=by
 refine qiu λt H=>?_;unfold upF
 by_cases c:t<l.length*w
 ·rw[Af c]
 ·rw[Ab c];have O:0<w:=by
   grind
  simp_all[Nat.le_div_iff_mul_le]
theorem qu4{l:Dn}{w:Nat}(W:k<=w)(h:l.getD i 0/2 ^ k=0):qbz (upF (λt=>l.getD (t/w) 0/2 ^ (t%w)) (i*w+k)) m=qbz (upF (λt=>l.getD (t/w) 0/2 ^ (t%w)) ((i+1)*w)) m:=by
 refine qiu λt _=>?_;unfold upF;have e:(i+1)*w=i*w+w:=by grind
 by_cases c:t<i*w+k
 ·grind
 ·rw[Ab c]
  by_cases H:t<(i+1)*w
  ·rw[Af H];have Z:0<w:=by omega
   obtain⟨s,rfl⟩:∃s,t=i*w+s:=⟨t-i*w,by omega⟩
   have O:(i*w+s)/w=i:=by rw[Nat.mul_comm,Nat.mul_add_div Z,Nat.div_eq_of_lt (by omega),Nat.add_zero]
   have U:(i*w+s)%w=s:=by simp_all[BZ]
   show _=l.getD ((i*w+s)/w) 0/2 ^ ((i*w+s)%w)%2;rw[O,U];obtain⟨d,rfl⟩:∃d,s=k+d:=⟨s-k,by omega⟩
   rw[Nat.pow_add,<-Cq,h];simp
  grind
theorem qz2(n:Nat)(w:Dc)(h:n<=64):Gv Do 260 [ii n] w λr w'=>r=.bool true/\w'=w:=by
 refine ze Tryz.func260 Tryz.ntmps260 ?_;refine zv ?_;exact⟨Ad Value.bool (AF Oo),rfl⟩
theorem qz8(n wd:Nat)(w:Dc)(h:n*wd<=4398046511104):Gv Do 263 [ii n,ii wd] w λr w'=>r=ii ((n*wd+7)/8:Nat)/\w'=w:=by
 obtain⟨f,O⟩:∃f,f=n*wd:=⟨_,rfl⟩
 have H:(n:Int)*(wd:Int)=(f:Int):=by rw[O,C5]
 rw[<-O]at h|-;refine ze Tryz.func263 Tryz.ntmps263 ?_;rw[H];refine zv ?_;exact⟨Ad (Value.int .i64) Oo,rfl⟩
theorem qt5{x w:Nat}(H:x<2 ^ w)(O:w<=64):qae x<=w:=qes w x H O
theorem qzy(x wd b:Nat)(w:Dc)(U:x<18446744073709551616)(W:w.heap[b]?=some (.cells #[ii wd] 3)):
  Gv Do 262 [.int .u64 x,pp b] w λr w'=>r=.bool (decide (wd<qae x))/\Ext w w':=by
 have Z:=qt5 (x:=x) (w:=64) (by simpa using U) Od;refine ze Tryz.func262 Tryz.ntmps262 ?_;refine DrawV.free rfl Jk (zw ?_);refine zd ?_;apply zsd
 ·intro H O;(conv=>whnf);refine zcv (qgk x H U) ?_;rintro v w7 ⟨rfl,rfl⟩;exact xq
 (conv=>whnf);refine zf ?_ (by intro wd O;(conv=>whnf);refine LoadV.own (Ext.get (Ext.trans (Ext.drew xr) O) W) rfl ?_;(conv=>whnf);exact xq);refine zd ?_;refine zd ?_;intro H O;(conv=>whnf);exact⟨Ad Value.bool (by rw[Bl];simp),(Ext.refl w).drew.trans O⟩
theorem qu8(ps:Dn)(wd b:Nat)(A:oA)(n c:Nat)(w:Dc)(hS:SlAt encU 1 w A ps)(hn:ps.length=n)(hl:n<=4398046511104)(hp:∀x∈ps,x<2 ^ wd)(hw:wd<=64)(hb:w.heap[b]?=some (.cells #[ii wd] 3)):
  Gv Do 330 [.slice A n c,.func (.func 262) #[] #[pp b]] w λr w'=>r=ii (-1)/\Ext w w':=by
 refine ze Tryz.func330 Tryz.ntmps330 ?_;refine qm (λi:Nat=>[(0,.slice A n c),(1,.func (.func 262) #[] #[pp b]),(7,ii n),(8,ii i)]) (λi W=>i<=n/\Ext w W) (λi=>n-i) 0 fq ⟨An _,Ext.refl w⟩ ?_;rintro i W aa ⟨i1,H⟩;(conv=>whnf);refine zC (λ_=>zw ?_) (λ_=>zw ?_)
 ·have hi:i<ps.length:=by omega
  have hx:=hp _ (AP hi);have U:ps[i]<18446744073709551616:=AE hx (AQ Od hw);refine ElemV.sl (hS.ext H) hn i rfl Oo ?_;intro eb eo O;refine LoadV.cell0 O (zw ?_);refine zcv (qzy ps[i] wd b W U (H.get hb)) ?_;rintro r w2 ⟨rfl,Z⟩;have hf:decide (wd<qae ps[i])=false:=Be (by have:=qt5 hx hw;omega);rw[hf];refine zu ?_;exact⟨i+1,fq,⟨by omega,H.trans Z⟩,by omega⟩
 ·exact⟨rfl,H⟩
theorem qmg(ps:Dn)(wd b:Nat)(A:oA)(n c:Nat)(w:Dc)(H:SlAt encU 1 w A ps)(O:ps.length=n)(U:n<=4398046511104)(W:∀x∈ps,x<2 ^ wd)(Z:wd<=64)(hb:w.heap[b]?=some (.cells #[ii wd] 3)):
  Gv Do 261 [.slice A n c,.func (.func 262) #[] #[pp b]] w λr w'=>r=.bool false/\Ext w w':=by
 refine ze Tryz.func261 Tryz.ntmps261 ?_;refine zcv (qu8 ps wd b A n c w H O U W Z hb) ?_;rintro r w1 ⟨rfl,he⟩;(conv=>whnf);exact⟨rfl,he⟩
def pkF(ps:Dn)(wd t:Nat):Nat:=ps.getD (t/wd) 0/2 ^ (t%wd)
def pkC(ps:Dn)(wd e:Nat):Dm:=byV (qbz (upF (pkF ps wd) e) ((ps.length*wd+7)/8))
theorem q89(ps:Dn)(wd e:Nat):(pkC ps wd e).length=(ps.length*wd+7)/8:=by rw[pkC,qao,qc6]
theorem q36(ps:Dn)(wd:Nat):pkC ps wd 0=qcu [Value.int .u8 0] ((ps.length*wd+7)/8):=q5c _ _
theorem qab5{e:Nat}(h:e<ps.length*wd):(pkC ps wd e)[e/8]?=some (.int .u8 (byt (upF (pkF ps wd) e) (e/8))):=qh8 Oo
theorem q9a{e:Nat}(h:e<ps.length*wd):(pkC ps wd e).set (e/8) (.int .u8 (byt (upF (pkF ps wd) e) (e/8)+pkF ps wd e%2*2 ^ (e%8):Nat))=pkC ps wd (e+1):=qaai Oo
theorem q88(ps:Dn)(wd:Nat):pkC ps wd (ps.length*wd)=byV (qc2 ps wd):=by rw[pkC];exact Ad byV (q31 ps wd)
theorem q35(H:k<=wd)(h:ps.getD i 0/2 ^ k=0):pkC ps wd (i*wd+k)=pkC ps wd ((i+1)*wd):=by rw[pkC,pkC];exact Ad byV (qu4 H h)
theorem qab6(H:k<wd):pkF ps wd (i*wd+k)=ps.getD i 0/2 ^ k:=by
 have O:(i*wd+k)/wd=i:=by rw[BN,Nat.mul_add_div Oo,CL H,Bq]
 have U:(i*wd+k)%wd=k:=by rw[BN,Nat.mul_add_mod,BZ H]
 rw[pkF,O,U]
theorem NewS.blk{n:Nat}(O:Ext w w')(U:w.heap.size<=b)(H:w'.heap[b]?=some (.cells (byV l).toArray e))(W:l.length=n):NewS e w w' (.slice (some ⟨b,0,none⟩) n n) l:=by
 subst W;refine⟨O,⟨_,_,rfl,Ao _,.inr ⟨b,_,rfl,H,by rw[Ci,qao];exact Ao _,?_,by rw[Ci,qao];exact Ao _⟩⟩,λk Z=>?_⟩
 ·rw[Ay (by rw[qao];exact Ao _)]
 ·rw[Ac.1 Z];exact⟨U,qb1 H⟩
theorem qs8(ps:Dn)(wd:Nat)(A:oA)(n c:Nat)(w:Dc)(hS:SlAt encU 1 w A ps)(hn:ps.length=n)(hl:n<=4398046511104)(ad:n*wd<=4398046511104)(hp:∀x∈ps,x<2 ^ wd)(hw:wd<=64):
  Gv Do 192 [.slice A n c,ii wd] w λr w'=>∃v,r=.tuple #[v,ii 0]/\NewS 5 w w' v (qc2 ps wd):=by
 have O:=λw=>qz8 n wd w ad
 obtain⟨f,ef⟩:∃f,f=n*wd:=⟨_,rfl⟩
 rw[<-ef]at O;have U:ps.length*wd=f:=by rw[hn,ef]
 refine ze Tryz.func192 Tryz.ntmps192 ?_;refine znm (Mem.nil w) ?_;intro b w1 H;refine zr H 0 ?_;refine zcv (qz2 wd w1 hw) ?_;rintro r w2 ⟨rfl,rfl⟩;refine zu ?_;refine zcv (qmg ps wd b A n c w2 (hS.ext H.ext) hn hl hp hw (H.get mh)) ?_;rintro r w3 ⟨rfl,ae⟩;have H:=H.call ae;(conv=>whnf);refine zt ?_;refine LoadV.mem (i:=0) Oa rfl rfl (zw ?_);refine zcv (O w3) ?_;rintro r w4 ⟨rfl,rfl⟩;(conv=>whnf);refine⟨(f+7)/8,(f+7)/8,rfl,rfl,Ao _,by show(f+7)/8*1<=_;omega,by omega,λob w5 hb aa=>?_⟩;have H:=H.new hb aa;have H:Mem w w5 [(ob,.cells (pkC ps wd 0).toArray 5),(b,.cells #[ii wd] 3)]:=by rw[q36,U];exact H
 clear hb aa;refine qm (λi:Nat=>[(0,.slice A n c),(3,pp b),(6,.slice (some ⟨ob,0,none⟩) ((f+7)/8) ((f+7)/8)),(23,.slice A n c),(24,ii n),(25,ii i)])
  (λi w'=>i<=n/\Mem w w' [(ob,.cells (pkC ps wd (i*wd)).toArray 5),(b,.cells #[ii wd] 3)]) (λi=>n-i) 0 fq ⟨An _,by rw[Nat.zero_mul];exact H⟩ ?_
 clear H;rintro i w6 am ⟨i1,H⟩;(conv=>whnf);refine zC (λ_=>zw ?_) (λ_=>zw ?_)
 ·have hi:i<ps.length:=by omega
  have hx:=hp _ (AP hi);have ab:ps[i]<18446744073709551616:=AE hx (AQ Od hw);have hg:ps.getD i 0=ps[i]:=by rw[Am,zge hi];rfl
  have af:i*wd+wd<=f:=by rw[ef,<-Ch];exact Bc _ Oo
  obtain⟨g,eg⟩:∃g,g=i*wd:=⟨_,rfl⟩
  have ag:(i:Int)*(wd:Int)=(g:Int):=by rw[eg,C5]
  rw[<-eg]at af;refine ElemV.sl (hS.ext H.ext) hn i rfl Oo ?_;intro eb eo W;refine LoadV.cell0 W ?_;refine zr H 1 ?_;rw[ag];refine zv ?_;refine qm (λk:Nat=>[(0,.slice A n c),(3,pp b),(6,.slice (some ⟨ob,0,none⟩) ((f+7)/8) ((f+7)/8)),(8,.int .u64 (ps[i]/2 ^ k:Nat)),(9,ii (g+k:Nat)),(23,.slice A n c),(24,ii n),(25,ii i)])
   (λk w'=>k<=wd/\Mem w w' [(ob,.cells (pkC ps wd (g+k)).toArray 5),(b,.cells #[ii wd] 3)]) (λk=>wd-k) 0 ⟨rfl,rfl,rfl,Ad (λn:Nat=>Value.int .u64 n) Js,rfl,rfl,rfl,rfl,trivial⟩ ⟨An _,by rw[Bq,eg];exact H⟩ ?_
  clear H;rintro k w7 an ⟨k1,H⟩;have hq:ps[i]/2 ^ k<18446744073709551616:=BC (CP _ _) ab;(conv=>whnf);refine zC (λ_=>zu ?_) (λ_=>zu ?_)
  ·have ah:k<wd:=Nat.lt_of_not_le λai=>by
    have:ps[i]/2 ^ k=0:=CL (AE hx (AQ Od ai));omega
   have he:g+k<ps.length*wd:=by rw[U];omega
   have aj:=q89 ps wd (g+k);rw[U]at aj;have ak:=qab5 he;have hF:pkF ps wd (g+k)=ps[i]/2 ^ k:=by rw[eg,qab6 ah,hg]
   have ao:=qrz (upF (pkF ps wd) (g+k)) ((g+k)/8);have ac:=q9a he;rw[hF]at ac;refine DrawV.own rfl Jk (zw ?_);(iterate 3 (refine zo ?_));apply StepO.still
   ·intro wd hd;refine ElemV.own1 ((g+k)/8) rfl Oo (zw ?_);exact PostO.still xr rfl
   apply StepO.still
   ·intro wd hd;refine LoadV.mem (Mem.call (Mem.drew H) hd) (i:=0) rfl (by rw[Az];exact ak) ?_;(conv=>whnf);exact PostO.still xr rfl
   (conv=>whnf);refine zo ?_;apply StepO.still
   ·intro Z hd;refine Wit.eq (qbo (k:=.u64) (m:=ps[i]/2 ^ k) 1 rfl (qio hq) ⟨by omega,by omega⟩) (zw ?_);exact PostO.still xr rfl
   (conv=>whnf);(iterate 3 (refine zo ?_));apply StepO.still
   ·intro Z hd;refine V.Wit.shlN ((g+k)%8) Oo (by show(g+k)%8<8;omega) (qdt ?_) ?_
    ·have h2:2 ^ ((g+k)%8)<=2 ^ 7:=AQ Od Oo;have h3:ps[i]/2 ^ k%2 ^ 1*2 ^ ((g+k)%8)<=1*2 ^ ((g+k)%8):=Bc _ Oo;have e7:(2:Nat) ^ 7=128:=by decide
     show ps[i]/2 ^ k%2 ^ 1*2 ^ ((g+k)%8)<256;omega
    (conv=>whnf);exact PostO.still xr rfl
   apply StepO.still
   ·intro Z hd;refine Wit.eq (q6i (f:=pkF ps wd) (g+k) (ps[i]/2 ^ k)) (zw ?_);exact PostO.still xr rfl
   apply StepO.still
   ·intro Z hd;refine ElemV.own1 ((g+k)/8) rfl Oo (zw ?_);exact PostO.still xr rfl
   intro w8 al
   (repeat(intro _;(conv=>whnf)))
   refine StoreV.mem (H.drew.call al) (i:=0) rfl (by rw[Ci];omega) rfl ?_;intro w9 H;have H:Mem w w9 [(ob,.cells (pkC ps wd (g+k+1)).toArray 5),(b,.cells #[ii wd] 3)]:=by
    rw[<-ac];have e:((pkC ps wd (g+k)).toArray.setIfInBounds ((g+k)/8) (.int .u8 (byt (upF (pkF ps wd) (g+k)) ((g+k)/8)+ps[i]/2 ^ k%2*2 ^ ((g+k)%8):Nat)))=((pkC ps wd (g+k)).set ((g+k)/8) (.int .u8 (byt (upF (pkF ps wd) (g+k)) ((g+k)/8)+ps[i]/2 ^ k%2*2 ^ ((g+k)%8):Nat))).toArray:=by simp
    rw[<-e];exact H
   (conv=>whnf);refine V.Wit.shrN 1 rfl Od (zu ?_);refine⟨k+1,⟨rfl,rfl,rfl,Ad (λn:Nat=>Value.int .u64 n) (by rw[Cq,<-CY]),Ad (Value.int .i64) Oo,rfl,rfl,rfl,trivial⟩,⟨by omega,H⟩,by omega⟩
  ·have hz:ps.getD i 0/2 ^ k=0:=by rw[hg];omega
   refine⟨i+1,fq,⟨by omega,?_⟩,by omega⟩;rw[<-q35 k1 hz,<-eg];exact H
 ·obtain rfl:i=n:=by omega
  obtain⟨o1,o2⟩:=H.own _ mh;refine⟨_,rfl,NewS.blk H.ext o1 ?_ (by rw[qby,U])⟩;rw[<-q88,hn];exact o2
def txs(L:List Dd):List LB:=L.map λs=>s.data.toList
theorem qd9(L:List Dd):(txs L).length=L.length:=by grind [txs]
theorem qo5{L:List Dd}(h:i<L.length):tx (txs L) i=L[i].data.toList:=by
 grind [tx,txs]
theorem q99{L:List Dd}(h:L.length<=i):tx (txs L) i=[]:=by
 grind [tx,txs]
theorem qin{L:List Dd}(h:i<L.length):(tx (txs L) i).length=L[i].size:=by rw[qo5 h];rfl
open Classical in
noncomputable def chkD(L:List LB):Nat:=
 if 4194304<L.length\/∃i,262144<(tx L i).length then 2 else if ∃i,i+1<L.length/\leL (tx L (i+1)) (tx L i)=true then 160 else 0
theorem qw4{L:List LB}(h:4194304<L.length):chkD L=2:=by grind [chkD]
theorem qw6{L:List LB}(h:262144<(tx L i).length):chkD L=2:=by grind [chkD]
theorem qw5{L:List LB}(h:¬4194304<L.length)(H:∀i,¬262144<(tx L i).length)(O:i+1<L.length)(U:leL (tx L (i+1)) (tx L i)=true):chkD L=160:=by
 rw[chkD,Ab (λg=>g.elim h λ⟨i,g⟩=>H i g),Af ⟨i,O,U⟩]
theorem q7g{L:List LB}(h:¬4194304<L.length)(H:∀i,¬262144<(tx L i).length)(O:∀i,i+1<L.length->leL (tx L (i+1)) (tx L i)=false):chkD L=0:=by
 grind [chkD]
theorem qiw{L:List LB}(h:chkD L=0):L.length<=4194304/\(∀i,(tx L i).length<=262144)/\(∀i,i+1<L.length->leL (tx L (i+1)) (tx L i)=false):=by
 rw[chkD]at h
 split at h
 all_goals simp_all
theorem qlm(L:List LB):dicE L=if chkD L=0 then(if 67108864<(qaj L).length then 1 else 0)else chkD L:=by
 rw[dicE,chkD]
 split
 ·rfl
 ·split
  ·rfl
  ·rfl
theorem qsc{L:List LB}(h:chkD L≠0):dicE L=chkD L:=by rw[qlm,Ab h]
theorem q2r{L:List LB}(h:chkD L=0)(H:(qaj L).length<=67108864):dicE L=0:=by grind [qlm]
theorem qnk{L:List LB}(h:chkD L=0)(H:67108864<(qaj L).length):dicE L=1:=by grind [qlm]
def plcN(L:List LB)(i:Nat):Dn:=(List.range (upN i 16)).map λk=>(arL L (16*k)).length
theorem q37(L:List LB)(h:i%16=0):plcN L (i+1)=plcN L i++[(arL L i).length]:=by
 have H:upN (i+1) 16=upN i 16+1:=by unfold upN;omega
 grind [upN,plcN,List.range_succ]
theorem qz6(L:List LB)(h:i%16≠0):plcN L (i+1)=plcN L i:=by
 grind [upN,plcN]
theorem qld(L:List LB)(h:i<=j):(arL L i).length<=(arL L j).length:=by
 obtain⟨r,H⟩:=qle L h
 simp_all
theorem q66(L:List LB)(h:i%16=0):arL L (i+1)=arL L i++(varL (tx L i).length++tx L i):=by
 grind [arL,entE]
theorem q12(L:List LB)(h:i%16≠0):arL L (i+1)=arL L i++(varL (comL (tx L (i-1)) (tx L i))++(varL ((tx L i).length-comL (tx L (i-1)) (tx L i))++(tx L i).drop (comL (tx L (i-1)) (tx L i)))):=by
 grind [arL,entE]
theorem q7r{first:Bool}{a:LB}(O:a.length<=262144)(H:s.length<=262144):(entE first a s).length<=262164:=by
 have U:=qix a s;have W:=qbc 8 (comL a s) (BC (A4 U.1 O) Od);have Z:=qbc 8 (s.length-comL a s) (BC (A4 (Nat.sub_le _ _) H) Od);have v3:=qbc 8 s.length (BC H Od)
 grind [entE]
theorem q5u{L:List LB}(h:∀i,(tx L i).length<=262144):∀i,(arL L i).length<=i*262164
 | 0=>Ao _
 | i+1=>by
  have O:=q5u h i;have H:(if i=0 then[]else tx L (i-1)).length<=262144:=by
   split
   ·exact An _
   ·exact h _
  have U:=q7r (first:=decide (i%16=0)) H (h i);rw[arL,zla,Ch];omega
theorem q9b{L:List LB}(W:(qaj L).length<=67108864):∀x∈plcL L,x<2 ^ qae (qaj L).length:=by
 intro x H;rw[plcL,AI]at H;obtain⟨k,O,rfl⟩:=H;have O:=B6.1 O;have U:16*k<=L.length:=by grind [upN]
 have Z:(arL L (16*k)).length<=(qaj L).length:=qld L U
 grind [ql8]
theorem qt4{n:Nat}(h:n<=67108864):qae n<=27:=qes 27 n (BC h Od) Od
theorem qnl{L:List LB}(O:L.length<=4194304)(H:(qaj L).length<=67108864):(qk L).length<=70000000:=by
 have Z:=qbc 8 L.length (BC O Od);have v2:=qbc 8 (qaj L).length (BC H Od);have U:=qt4 H;have W:=qby (plcL L) (qae (qaj L).length);rw[qij]at W;have hm:upN L.length 16*qae (qaj L).length<=262144*27:=Bz (by unfold upN;omega) U
 grind [qk]
theorem q78{L:List Dd}(H:i<L.length)(O:j<L.length):leL (tx (txs L) i) (tx (txs L) j)=(slt L[i] L[j]||seq L[i] L[j]):=by
 rw[qo5 H,qo5 O];rfl
theorem q6n{a b:Dd}:slt a b=false↔(slt b a||seq b a)=true:=by
 rw[<-CW,qc4,CQ,qc4,qa1,List.not_lt]
 constructor
 ·intro h
  rcases List.le_iff_lt_or_eq.1 h with h|h
  ·exact .inl h
  ·exact .inr (qeu h)
 ·rintro(h|h)
  ·exact List.le_of_lt h
  ·rw[h];exact List.le_refl _
theorem quh(L:List Dd)(A:oA)(n c:Nat)(w:Dc)(hS:SlAt zeS 1 w A L)(hn:L.length=n)(hb:n<=140737488355328):
  Gv Do 252 [.slice A n c] w λr w'=>r=ii (chkD (txs L))/\Ext w w':=by
 refine ze Tryz.func252 Tryz.ntmps252 ?_;refine zC (λ_=>zw ?_) (λ_=>zw ?_)
 ·exact⟨by rw[qw4 (by rw[qd9];omega)];rfl,Ext.refl w⟩
 ·have H:¬4194304<(txs L).length:=by rw[qd9];omega
  refine qm (λi:Nat=>[(0,.slice A n c),(9,.slice A n c),(10,ii n),(11,ii i)]) (λi w1=>i<=n/\(∀j,j<i->¬262144<(tx (txs L) j).length)/\w1=w) (λi=>n-i) 0 fq ⟨An _,λj h=>absurd h (Cf _),rfl⟩ ?_;rintro i w1 ai ⟨i1,i2,rfl⟩;(conv=>whnf);refine zC (λ_=>zw ?_) (λ_=>zw ?_)
  ·have hi:i<L.length:=by omega
   have hx:=qin hi;refine ElemV.sl hS hn i rfl Oo ?_;intro eb eo U;refine LoadV.cell0 U (zw ?_);refine zC (λ_=>zu ?_) (λ_=>zu ?_)
   ·exact⟨by rw[qw6 (i:=i) Oo];rfl,xr⟩
   ·refine⟨i+1,fq,⟨by omega,λj Z=>?_,rfl⟩,by omega⟩
    by_cases e:j=i
    ·subst e;omega
    ·exact i2 j Oo
  ·obtain rfl:i=n:=by omega
   have aa:∀j,¬262144<(tx (txs L) j).length:=λj=>by
    by_cases Z:j<i
    ·exact i2 j Z
    ·rw[q99 Oo];decide
   refine qm (λk:Nat=>[(0,.slice A i c),(5,ii (k+1:Nat))]) (λk w2=>(∀j,j<k->j+1<L.length->leL (tx (txs L) (j+1)) (tx (txs L) j)=false)/\Ext w1 w2) (λk=>i-k) 0 fq ⟨λj h=>by omega,Ext.refl w1⟩ ?_;rintro k w2 aj ⟨k1,W⟩;(conv=>whnf);refine zC (λ_=>zw ?_) (λ_=>zw ?_)
   ·have hk:k+1<L.length:=by omega
    obtain⟨b,ab,rfl,ac⟩:=(hS.ext W).at_ (by intro e;rw[e]at hk;cases hk);have af:=(ac k _ (zge Oo)).ext (Ext.refl w2).drew;have ag:=(ac (k+1) _ (zge hk)).ext (Ext.refl w2).drew;refine zy ?_;refine zv ?_;refine⟨⟨b,ab,k,rfl,by omega,by omega,?_⟩⟩;refine zu ?_;refine LoadV.cell0 af (zu ?_);refine⟨⟨b,ab,k+1,rfl,by omega,by omega,?_⟩⟩;refine zu ?_;refine LoadV.cell0 ag (zu ?_);have ad:=W.drew;have ae:=q78 hk (show k<L.length by omega);refine Tst.both (λO=>?_) λO=>?_
    ·refine zu ?_;refine⟨k+1,⟨rfl,Ad (Value.int .i64) Oo,trivial⟩,⟨λj Z ah=>?_,ad⟩,by omega⟩
     by_cases e:j=k
     ·subst e;rw[ae,<-CW];exact λg=>by rw[q6n.2 g]at O;cases O
     ·exact k1 j Oo ah
    ·(conv=>whnf);exact⟨by rw[qw5 H aa (i:=k) (by rw[qd9];exact hk) (by rw[ae];exact q6n.1 O)];rfl,ad⟩
   ·exact⟨by rw[q7g H aa (λj Z=>by rw[qd9]at Z;exact k1 j Oo Z)];rfl,W⟩
def u64V(l:Dn):Dm:=l.map λn=>Value.int .u64 (n:Nat)
theorem qdl(l:Dn):(u64V l).length=l.length:=by simp[u64V]
theorem qzu{α:Type}{f:α->Dh}{n:Nat}{l:List α}(h:w.ownsRow base e 1 (.slice A n c) n (l.map f))(hn:l.length=n):SlAt (λx=>[f x]) 1 w A l:=by
 subst hn;refine⟨λH=>?_⟩
 rcases h.2 with⟨U,e2⟩|⟨g,aa,cur,U,_,h2,_,_,h5,h6⟩
 ·exact absurd (AK e2) H
 ·cases U;refine⟨g,0,rfl,λj x W k v O=>?_⟩;cases k with
  | succ k=>simp at O
  | zero=>
   simp only[Bb,AN]at O;subst O;have hj:=(Ae.1 W).1;have Z:(l.map f)[j]?=some (f x):=by rw[Ar,W];rfl
   rw[<-h6,Bn,Af Oo]at Z;rw[qa h2,Aq,Bw,Bq]
   simpa using Z
theorem qqd{n:Nat}{l:Dn}(h:w.ownsRow base 164 1 (.slice A n c) n (u64V l))(H:l.length=n):SlAt encU 1 w A l:=qzu (f:=λx:Nat=>Value.int .u64 (x:Nat)) h H
structure DicS(L:List LB)(w0 w:Dc)(b i:Nat)(v:Dh):Prop where
 h:∃F ps,Sep w0 w [F,rowF v]/\BufAt w b 67108864 (arL L i) F/\w.ownsRow 0 164 1 v (upN i 16) (u64V ps)/\ps.length=upN i 16/\((arL L i).length<=67108864->ps=plcN L i)
theorem q6s{L:List Dd}(h:chkD (txs L)=0)(H:i<L.length):L[i].size<=262144:=by rw[<-qin H];exact(qiw h).2.1 i
theorem qm8{L:List LB}(h:chkD L=0)(O:i<=L.length):(arL L i).length<=1200000000000:=by
 obtain⟨U,H,_⟩:=qiw h;have W:=q5u H i;have Z:i*262164<=4194304*262164:=Bc _ Oo;omega
def DBuR(L:List LB)(w w':Dc)(r:Dh):Prop:=
 (dicE L≠0/\r=.tuple #[.slice none 0 0,ii (dicE L)]/\Ext w w')\/(dicE L=0/\∃v,r=.tuple #[v,ii 0]/\NewS 5 w w' v (qk L))
theorem DicS.step{L:List LB}{v:Dh}(H:Sep w0 w' [F,rowF v])(O:BufAt w' b 67108864 (arL L i) F)(U:w'.ownsRow 0 164 1 v (upN i 16) (u64V ps))(W:ps.length=upN i 16)(Z:(arL L i).length<=67108864->ps=plcN L i):DicS L w0 w' b i v:=⟨⟨F,ps,H,O,U,W,Z⟩⟩
theorem qug(L:List Dd)(A:oA)(n c:Nat)(w:Dc)(hS:SlAt zeS 1 w A L)(hn:L.length=n)(hb:n<=140737488355328):
  Gv Do 186 [.slice A n c,ii 4611686018427387904] w λr w'=>DBuR (txs L) w w' r:=by
 refine ze Tryz.func186 Tryz.ntmps186 ?_;refine zcv (quh L A n c w hS hn hb) ?_;rintro r w1 ⟨rfl,aw⟩
 by_cases hE:chkD (txs L)=0
 ·have bc:=(qiw hE).1;rw[qd9,hn]at bc;rw[hE];refine zu ?_;refine zcv (qee 67108864 w1) ?_;rintro r w2 ⟨b,rfl,bd,be,O⟩;have O:BufAt w2 b 67108864 (arL (txs L) 0) [b]:=O;have H:Sep w w2 [[b],rowF (.slice none 0 0)]:=((Sep.of aw).add (F:=rowF (.slice none 0 0)) (Ext.refl w1) (λk hk=>by cases hk)).add bd λk hk=>by rw[Ac.1 hk];exact⟨be,O.lt b (Ac.2 rfl)⟩
  refine qm (λx:Nat×oA×Nat=>[(0,.slice A n c),(1,ii 4611686018427387904),(7,pp b),(8,.slice x.2.1 (upN x.1 16) x.2.2),(23,.slice A n c),(24,ii n),(25,ii x.1)])
   (λx w'=>x.1<=n/\DicS (txs L) w w' b x.1 (.slice x.2.1 (upN x.1 16) x.2.2)) (λx=>n-x.1) (0,none,0) fq ⟨An _,DicS.step H O (World.ownsRow_nil _ _ _ _) (ps:=[]) rfl λ_=>rfl⟩ ?_
  clear O H;rintro⟨i,P,cp⟩ w3 b6 ⟨i1,⟨F,ps,H,O,W,ad,ac⟩⟩;dsimp only at i1 H O W ad ac|-;(conv=>whnf);refine zC (λ_=>zw ?_) (λ_=>zw ?_)
  ·have hi:i<L.length:=by omega
   have b7:=q6s hE hi;have hx:=qo5 hi;have bf:=qm8 (L:=txs L) hE (i:=i) (by rw[qd9];omega);have ax:upN i 16<=262144:=by unfold upN;omega
   refine ElemV.sl (hS.ext H.ext) hn i rfl Oo ?_;intro eb eo al;refine LoadV.cell0 al (zw ?_);refine zt ?_;refine zC (λ_=>zu ?_) (λ_=>zu ?_)
   ·have aa:i%16=0:=by omega
    have ae:(tx (txs L) i).length=L[i].size:=qin hi;refine zcv (q2c b 67108864 _ F w3 O) ?_;rintro r w4 ⟨⟨k,rfl,b8,bg⟩,rfl⟩;refine zu ?_;refine⟨λnb w5 ay hw=>?_⟩;have am:Ext w4 w5:=by rw[hw];exact(Ext.refl w4).alloc _
    have bh:w5.heap[nb]?=some (.cells #[.int .u64 k] 164):=by rw[hw,ay];exact heap_alloc_new w4 _
    have H:=H.call am;have O:=O.call am;have W:=qcg W am;clear ay hw;refine AppV.cell qaae u64I u64Z Jk rfl (by decide +kernel) W bh rfl Oo ?_;intro A' c' w6 W bi az;obtain⟨H,_,Z⟩:=H.row (i:=1) (F':=rowF (.slice A' (upN i 16+1) c')) rfl bi az;have O:=O.keep (Z 0 _ rfl Od);refine zu ?_;refine zcv (qbr b 67108864 _ L[i].size F w6 O Oo Od Oo) ?_;rintro r w7 ⟨rfl,hC⟩;obtain⟨F7,⟨H,_,Z⟩,O⟩:=H.buf (i:=0) rfl hC;have W:=qal W (Z 1 _ rfl Od);have b9:=qbc 9 L[i].size Oo;refine NewBytesV.sl ?_;intro sb af w8 bj an ao;have H:=H.call an;have O:=O.call an;have W:=qcg W an;(conv=>whnf);refine zcv (qcq b 67108864 _ L[i].data.toList F7 (some ⟨sb,0,none⟩) L[i].size af w8 O ao rfl Od (by rw[zla];show _+L[i].size<=_;omega)) ?_;rintro r w9 ⟨rfl,hC⟩;obtain⟨F9,⟨H,_,Z⟩,O⟩:=H.buf (i:=0) rfl hC;have W:=qal W (Z 1 _ rfl Od);have U:upN (i+1) 16=upN i 16+1:=by unfold upN;omega
    have aq:arL (txs L) (i+1)=arL (txs L) i++varL L[i].size++L[i].data.toList:=by rw[q66 _ aa,ae,hx,Au]
    refine zu ?_;refine⟨(i+1,A',c'),⟨rfl,rfl,rfl,by show Value.slice _ _ _=_;rw[U],rfl,rfl,rfl,trivial⟩,⟨by simp only;omega,?_⟩,by simp only;omega⟩;show DicS (txs L) w w9 b (i+1) (.slice A' (upN (i+1) 16) c');rw[U];refine⟨⟨F9,ps++[k],H,by rw[aq];exact O,?_,by rw[zla,ad,U];rfl,λab=>?_⟩⟩
    ·rw[U,u64V,AY];exact W
    ·have h1:(arL (txs L) i).length<=67108864:=A4 (qld _ (BY i)) ab;rw[q37 _ aa,ac h1,bg h1]
   ·have aa:i%16≠0:=by omega
    have ca:i≠0:=λe=>aa (by rw[e])
    have b5:=q6s hE (i:=i-1) Oo;have ae:(tx (txs L) i).length=L[i].size:=qin hi;have bk:=qo5 (L:=L) (i:=i-1) Oo;have a0:=qix (tx (txs L) (i-1)) (tx (txs L) i);rw[ae]at a0;refine ElemV.sl (hS.ext H.ext) hn (i-1) Oo Oo ?_;intro cb cc aj;refine LoadV.cell0 aj (zw ?_);refine zcv (qwl (L[i-1]' Oo) L[i] w3 Oo) ?_;rintro r w4 ⟨rfl,ag⟩;rw[<-bk,<-hx];obtain⟨cm,a1⟩:∃cm,cm=comL (tx (txs L) (i-1)) (tx (txs L) i):=⟨_,rfl⟩
    rw[<-a1]at a0|-;have H:=H.call ag;have O:=O.call ag;have W:=qcg W ag;have a2:=qbc 9 cm Oo;have a3:=qbc 9 (L[i].size-cm) Oo;refine zu ?_;refine zcv (qbr b 67108864 _ cm F w4 O Oo Od Oo) ?_;rintro r w5 ⟨rfl,hC⟩;obtain⟨F5,⟨H,_,Z⟩,O⟩:=H.buf (i:=0) rfl hC;have W:=qal W (Z 1 _ rfl Od);refine zu ?_;have a4:(L[i].size:Int)-(cm:Int)=((L[i].size-cm:Nat):Int):=by omega
    rw[a4];refine zcv (qbr b 67108864 _ (L[i].size-cm) F5 w5 O Oo Od (by rw[zla];omega)) ?_;rintro r w6 ⟨rfl,hC⟩;obtain⟨F6,⟨H,_,Z⟩,O⟩:=H.buf (i:=0) rfl hC;have W:=qal W (Z 1 _ rfl Od);(conv=>whnf);refine⟨cm,L[i].size,rfl,rfl,by omega,Ao _,?_⟩;obtain⟨sx,a5⟩:∃sx,sx=L[i].extract cm L[i].size:=⟨_,rfl⟩
    have a6:sx.data.toList=(tx (txs L) i).drop cm:=by rw[a5,qbe,hx];exact Ay (by rw[zld];exact Ao _)
    have bl:sx.data.toList.length=L[i].size-cm:=by rw[a6,zld,ae]
    rw[<-a5];refine NewBytesV.sl ?_;intro sb af w7 bj ah ao;have H:=H.call ah;have O:=O.call ah;have W:=qcg W ah;(conv=>whnf);refine zcv (qcq b 67108864 _ sx.data.toList F6 (some ⟨sb,0,none⟩) sx.size af w7 O ao rfl Od (by rw[zla,zla,bl];omega)) ?_;rintro r w8 ⟨rfl,hC⟩;obtain⟨F8,⟨H,_,Z⟩,O⟩:=H.buf (i:=0) rfl hC;have W:=qal W (Z 1 _ rfl Od);have U:upN (i+1) 16=upN i 16:=by unfold upN;omega
    have aq:arL (txs L) (i+1)=arL (txs L) i++varL cm++varL (L[i].size-cm)++sx.data.toList:=by rw[q12 _ aa,ae,<-a1,a6];simp only[Au]
    refine zu ?_;refine⟨(i+1,P,cp),⟨rfl,rfl,rfl,by show Value.slice _ _ _=_;rw[U],rfl,rfl,rfl,trivial⟩,⟨by simp only;omega,?_⟩,by simp only;omega⟩;show DicS (txs L) w w8 b (i+1) (.slice P (upN (i+1) 16) cp);rw[U];refine⟨⟨F8,ps,H,by rw[aq];exact O,by rw[U];exact W,by rw[ad,U],λab=>?_⟩⟩;have h1:(arL (txs L) i).length<=67108864:=A4 (qld _ (BY i)) ab;rw[qz6 _ aa,ac h1]
  ·obtain rfl:i=n:=by omega
   have bf:=qm8 (L:=txs L) hE (i:=i) (by rw[qd9];omega);have ar:(txs L).length=i:=by rw[qd9,hn]
   have bm:arL (txs L) i=qaj (txs L):=by rw[qaj,ar]
   refine zcv (qcj b 67108864 _ F w3 O Oo) ?_;rintro r w4 hR;rw[bm]at hR ac
   rcases hR with⟨ai,rfl,rfl⟩|⟨ab,v,rfl,hN⟩
   ·refine zu ?_;exact .inl ⟨by rw[qnk hE ai];decide,by rw[qnk hE ai];rfl,H.ext⟩
   ·have ac:=ac ab;have a7:plcN (txs L) i=plcL (txs L):=by rw[<-ar];rfl
    rw[a7]at ac;subst ac;have bn:=qcg W hN.ext;have ax:upN i 16<=262144:=by unfold upN;omega
    have bo:=hN.bs;have ag:Ext w w4:=H.ext.trans hN.ext;obtain⟨Av,cv,rfl,cd,bp⟩:=id bo;have a8:=qt4 ab;refine zu ?_;refine zcv (qgk (qaj (txs L)).length w4 Oo) ?_;rintro r w5 ⟨rfl,rfl⟩;(conv=>whnf);refine zcv (qs8 (plcL (txs L)) (qae (qaj (txs L)).length) P (upN i 16) cp w5 (qqd bn ad) ad Oo (A4 (Bz ax a8) Od) (q9b ab) Oo) ?_;rintro r w6 ⟨vp,rfl,au⟩;have bq:=au.bs;have ak:=qby (plcL (txs L)) (qae (qaj (txs L)).length);have br:(plcL (txs L)).length*qae (qaj (txs L)).length<=262144*27:=Bz Oo a8;obtain⟨Ap,cq,rfl,bt,a9⟩:=id bq;obtain⟨pk,av⟩:∃pk,pk=qc2 (plcL (txs L)) (qae (qaj (txs L)).length):=⟨_,rfl⟩
    obtain⟨pr,bu⟩:∃pr,pr=(plcL (txs L)).length*qae (qaj (txs L)).length:=⟨_,rfl⟩
    rw[<-av]at a9 ak bt;rw[<-bu]at ak br;have bv:=ag.trans au.ext;(conv=>whnf);refine zcv (qee 4611686018427387904 w6) ?_;rintro r w7 ⟨ob,rfl,ah,bw,bz⟩;have hU:BufS w6 w7 ob 4611686018427387904 []:=BufS.new (Ext.refl w6) ah bw bz;refine zu ?_;have a2:=qbc 9 i Oo;have a3:=qbc 9 (qaj (txs L)).length Oo;refine zcv (hU.step λF hF=>qbr ob 4611686018427387904 _ i F w7 hF Oo Od Js) ?_;rintro r w8 ⟨rfl,hU⟩;refine zu ?_;refine zcv (hU.step λF hF=>qbr ob 4611686018427387904 _ (qaj (txs L)).length F w8 hF Oo Od (by rw[Bs];omega)) ?_;rintro r w9 ⟨rfl,hU⟩;rw[<-av];refine zcv (hU.step λF hF=>qcq ob 4611686018427387904 _ pk F Ap pk.length cq w9 hF (a9.ext hU.ext) rfl Od (by rw[Bs,zla];omega)) ?_;rintro r b0 ⟨rfl,hU⟩;(conv=>whnf);refine zcv (hU.step λF hF=>qcq ob 4611686018427387904 _ (qaj (txs L)) F Av (qaj (txs L)).length cv b0 hF (bp.ext (au.ext.trans hU.ext)) rfl Od (by simp only[Bs,zla];omega)) ?_;rintro r b1 ⟨rfl,hU⟩;have eD:[]++varL i++varL (qaj (txs L)).length++pk++qaj (txs L)=qk (txs L):=by rw[qk,ar,<-av];simp only[Bs,Au]
    rw[eD]at hU;have ce:=qnl (L:=txs L) Oo ab;obtain⟨b2,b3,ba⟩:=hU.h;(conv=>whnf);refine zcv (qcj ob 4611686018427387904 _ b2 b1 ba Oo) ?_;rintro r cf (⟨ai,_⟩|⟨_,v2,rfl,bb⟩)
    ·omega
    ·obtain⟨A2,c2,b4,_⟩:=id bb.h;subst b4;(conv=>whnf);exact .inr ⟨q2r hE ab,_,rfl,bb.back (bv.trans hU.ext)⟩
 ·have h0:¬((chkD (txs L):Nat):Int)=0:=by omega
  refine zu ?_;exact .inl ⟨by rw[qsc hE];exact hE,by rw[qsc hE],aw⟩
open Go.RowKit Region
namespace V
structure ExtE(w w':Dc):Prop where
 ext:Ext w w'
 dr:w.drawn<=w'.drawn
theorem ExtE.refl(w:Dc):ExtE w w:=⟨Ext.refl w,Ao _⟩
theorem ExtE.trans{a b c:Dc}(h:ExtE a b)(k:ExtE b c):ExtE a c:=⟨h.ext.trans k.ext,A4 h.dr k.dr⟩
theorem ExtE.alloc{a:Dc}(h:ExtE a w)(o:Obj):ExtE a (w.alloc o):=⟨h.ext.alloc o,h.dr⟩
theorem ExtE.drew(w:Dc):ExtE w w.drew:=⟨(Ext.refl w).drew,BY _⟩
end V
end Go.Proofs.YtccmcfpmknpccaaGreatDoor
namespace Go.Proofs
open YtccmcfpmknpccaaGreatDoor YtccmcfpmknpccaaGreatDoor.V
open Go.Shelf
def Tryz.srt_ren:Go.Shelf.Ren:=⟨fun|6=>123|15=>204|14=>203|28=>279|29=>259|20=>271|21=>272|22=>273|23=>274|24=>275|25=>276|26=>277|27=>278|46=>332|47=>333|48=>334|49=>335|50=>336|57=>371|n=>n,fun|22=>28|24=>45|25=>66|3=>3|39=>272|0=>0|53=>179|55=>164|4=>4|46=>408|45=>407|50=>153|5=>5|9=>9|66=>447|70=>450|76=>477|77=>58|n=>n,fun|n=>n⟩
theorem Tryz.srt:Go.Proofs.SlLaysF0.n6 Do Tryz.srt_ren:={
 mixed:=by kernel_rfl
 f6:=⟨Tryz.f123.name,by decide,Tryz.func123.trans (Ad some Jk)⟩
 f14:=⟨Tryz.f203.name,by decide,Tryz.func203.trans (Ad some Jk)⟩
 f15:=Tryz.func204.trans (Ad some Jk)
 f20:=⟨Tryz.f271.name,by decide,Tryz.func271.trans (Ad some Jk)⟩
 f21:=⟨Tryz.f272.name,by decide,Tryz.func272.trans (Ad some Jk)⟩
 f22:=⟨Tryz.f273.name,by decide,Tryz.func273.trans (Ad some Jk)⟩
 f23:=⟨Tryz.f274.name,by decide,Tryz.func274.trans (Ad some Jk)⟩
 f24:=⟨Tryz.f275.name,by decide,Tryz.func275.trans (Ad some Jk)⟩
 f25:=⟨Tryz.f276.name,by decide,Tryz.func276.trans (Ad some Jk)⟩
 f26:=⟨Tryz.f277.name,by decide,Tryz.func277.trans (Ad some Jk)⟩
 f27:=⟨Tryz.f278.name,by decide,Tryz.func278.trans (Ad some Jk)⟩
 f28:=Tryz.func279.trans (Ad some Jk)
 f29:=Tryz.func259.trans (Ad some Jk)
 f46:=⟨Tryz.f332.name,by decide,Tryz.func332.trans (Ad some Jk)⟩
 f47:=Tryz.func333.trans (Ad some Jk)
 f48:=Tryz.func334.trans (Ad some Jk)
 f49:=⟨Tryz.f335.name,by decide,Tryz.func335.trans (Ad some Jk)⟩
 f50:=⟨Tryz.f336.name,by decide,Tryz.func336.trans (Ad some Jk)⟩
 f57:=⟨Tryz.f371.name,by decide,Tryz.func371.trans (Ad some Jk)⟩
 t0:=Tryz.underlying0
 a0:=Tryz.isAgg0
 z0:=Tryz.sizeOf0
 v0:=Tryz.zeroValue0
 t3:=Tryz.underlying3
 a3:=Tryz.isAgg3
 z3:=Tryz.sizeOf3
 v3:=Tryz.zeroValue3
 t4:=Tryz.underlying4
 a4:=Tryz.isAgg4
 z4:=Tryz.sizeOf4
 v4:=Tryz.zeroValue4
 t5:=Tryz.underlying5
 a5:=Tryz.isAgg5
 z5:=Tryz.sizeOf5
 v5:=Tryz.zeroValue5
 t9:=Tryz.underlying9
 a9:=Tryz.isAgg9
 z9:=Tryz.sizeOf9
 v9:=Tryz.zeroValue9
 t22:=Tryz.underlying28
 a22:=Tryz.isAgg28
 z22:=Tryz.sizeOf28
 v22:=Tryz.zeroValue28
 t25:=Tryz.underlying66
 a25:=Tryz.isAgg66
 z25:=Tryz.sizeOf66
 v25:=Tryz.zeroValue66
 t39:=Tryz.underlying272
 a39:=Tryz.isAgg272
 z39:=Tryz.sizeOf272
 v39:=Tryz.zeroValue272
 t45:=Tryz.underlying407
 a45:=Tryz.isAgg407
 z45:=Tryz.sizeOf407
 v45:=Tryz.zeroValue407
 t46:=Tryz.underlying408
 a46:=Tryz.isAgg408
 z46:=Tryz.sizeOf408
 v46:=Tryz.zeroValue408
 t50:=Tryz.underlying153
 a50:=Tryz.isAgg153
 z50:=Tryz.sizeOf153
 v50:=Tryz.zeroValue153
 t53:=Tryz.underlying179
 a53:=Tryz.isAgg179
 z53:=Tryz.sizeOf179
 v53:=Tryz.zeroValue179
 t55:=Tryz.underlying164
 a55:=Tryz.isAgg164
 z55:=Tryz.sizeOf164
 v55:=Tryz.zeroValue164
 t66:=Tryz.underlying447
 a66:=Tryz.isAgg447
 z66:=Tryz.sizeOf447
 v66:=Tryz.zeroValue447
 t70:=Tryz.underlying450
 a70:=Tryz.isAgg450
 z70:=Tryz.sizeOf450
 v70:=Tryz.zeroValue450
 t76:=Tryz.underlying477
 a76:=Tryz.isAgg477
 z76:=Tryz.sizeOf477
 v76:=Tryz.zeroValue477
 t77:=Tryz.underlying58
 a77:=Tryz.isAgg58
 z77:=Tryz.sizeOf58
 v77:=Tryz.zeroValue58 }
end Go.Proofs
namespace Go.Proofs.YtccmcfpmknpccaaGreatDoor
open Go.RowKit
variable {w w':Dc} {g i m:Nat} {cur:Dp} {e:Df} {X:List TM} {qs:List Q4}
namespace V
theorem ExtE.grow(h:ExtE w w'):∃q O,w'=Sort.grow (w.drewN q) O:=by
 refine⟨w'.drawn-w.drawn,(w'.heap.toList.drop w.heap.size).toArray,?_⟩;have U:w'.heap=w.heap++(w'.heap.toList.drop w.heap.size).toArray:=by
  rw[<-Br,Array.toList_append];conv=>lhs;rw[<-BA w.heap.size w'.heap.toList]
  congr 1
  apply Bi;intro k;rw[Bn]
  by_cases H:k<w.heap.size
  ·rw[Af H];have:=h.ext.block k H
   simp_all
  grind
 have W:=h.dr;obtain⟨Z,h2,h3,h4,h5⟩:=w';obtain⟨e1,e2,e3,e4,e5⟩:=h.ext
 grind [Sort.grow,World.drewN]
section
variable {α:Type} [Inhabited α] {enc:α->Dm} {k:Nat}
theorem qkj(H:∀x,(enc x).length=k)(O:0<k)(Y:List α):(Sort.flatK enc k Y.toArray).toList=(Y.map enc).flatten:=by
 apply Bi;intro t
 by_cases U:t<Y.length*k
 ·have Z:t/k<Y.length:=Nat.div_lt_of_lt_mul (by grind);have W:t%k<k:=Cb _ O;have e:t/k*k+t%k=t:=Nat.div_add_mod' t k;have h1:=qbv enc k H Y (t/k) Y[t/k] (t%k) Js W
  grind [Sort.flatK]
 ·rw[AS (by simpa using U),AS (by rw[qbs enc k H];omega)]
theorem q0k(H:∀x,(enc x).length=k)(Z:0<k){Y:List α}(O:w.heap[g]?=some (.cells cur e))(ht:cur.toList.take (Y.length*k)=(Y.map enc).flatten):Sort.HoldsK enc k w g 0 Y.toArray:=by
 intro j U;refine⟨?_,by simp[World.frozen?,O]⟩;rw[qa O,Aq,getElem!_pos _ j U];have W:j<Y.length*k:=by simpa using U
 have h1:(cur.toList.take (Y.length*k))[j]?=(Sort.flatK enc k Y.toArray).toList[j]?:=by grind [qkj]
 grind
theorem qmr(w:Dc)(g m:Nat)(d:Array α)(H:Array Obj)(_:g<w.heap.size):Chn [g] w (sortWorldK enc k w g 0 m d H):=by
 refine⟨rfl,rfl,rfl,?_,λb U W=>?_⟩
 all_goals grind [sortWorldK,Sort.grow,Sort.putRowK,Sort.putRow,Sort.mapBlock,Sort.ahead]
theorem qms(O:∀x,(enc x).length=k)(hk:0<k){d:Array α}{os:Array Obj}(W:w.heap[g]?=some (.cells cur e))(hc:d.size*k<=cur.size):
  ∃H,(sortWorldK enc k w g 0 m d os).heap[g]?=some (.cells H e)/\H.size=cur.size/\H.toList.take (d.size*k)=(d.toList.map enc).flatten:=by
 have U:=qb1 W;refine⟨Sort.putCells id 0 (Sort.flatK enc k d) cur,?_,by simp[Sort.putCells],?_⟩
 ·simp only[sortWorldK,Sort.grow,Sort.putRowK,Sort.putRow,Sort.mapBlock,Sort.ahead];rw[Array.getElem?_append_left (by simpa using U),CI,Af rfl,W];rfl
 ·have Z:=qkj O hk d.toList;have e1:d.toList.toArray=d:=by simp
  rw[e1]at Z;rw[<-Z];apply Bi;intro j;rw[Bn]
  grind [Sort.flatK,Sort.putCells]
end
end V
open Go.RowKit V
set_option maxRecDepth 100000
def or4(a b c d:Int):Int:=if a≠0 then a else if b≠0 then b else if c≠0 then c else d
def or4L(l:List Int):Int:=match l with
 | []=>0
 | a::l=>if a≠0 then a else or4L l
theorem q8w(a b c d:Int):or4L [a,b,c,d]=or4 a b c d:=by
 unfold or4;simp only[or4L]
 by_cases h:d≠0
 ·rw[Af h]
 ·rw[Ab h,Ck.1 h]
theorem qqb(a b c d:Int)(nb:Nat)(w:Dc)(hb:w.heap[nb]?=some (.cells #[ii a,ii b,ii c,ii d] 3)):
  Gv Do 58 [.slice (some ⟨nb,0,none⟩) 4 4] w λv w'=>v=ii (or4 a b c d)/\w'=w:=by
 have U:∀i (x:Int),[a,b,c,d][i]?=some x->w.cell? ⟨nb,i,none⟩=some (ii x):=λi x H=>by
  rw[qa hb]
  match i,H with
  | 0,H=>cases H;rfl
  | 1,H=>cases H;rfl
  | 2,H=>cases H;rfl
  | 3,H=>cases H;rfl
  | _+4,H=>cases H
 refine ze Tryz.func58 Tryz.ntmps58 ?_;refine qm (λi:Nat=>[(3,ii 0),(6,.slice (some ⟨nb,0,none⟩) 4 4),(7,ii 4),(8,ii i)]) (λi W=>i<=4/\or4 a b c d=or4L ([a,b,c,d].drop i)/\W=w) (λi=>4-i) 0 fq ⟨by omega,(q8w a b c d).symm,rfl⟩ ?_;rintro i W aa ⟨h1,O,rfl⟩;(conv=>whnf);refine zC (λ_=>zw ?_) (λ_=>zw ?_)
 ·have Z:i<[a,b,c,d].length:=by show i<4;omega
  have hd:[a,b,c,d].drop i=[a,b,c,d][i]::[a,b,c,d].drop (i+1):=Bo Z;have H:=U i _ (zge Z);rw[hd,or4L]at O;obtain⟨x,ex⟩:∃x,x=[a,b,c,d][i]:=⟨_,rfl⟩
  rw[<-ex]at O H;refine ElemV.own1 i rfl Oo ?_;refine LoadV.of H (zw ?_);refine zC (λ_=>zu ?_) (λ_=>zu ?_)
  ·rw[Af Oo]at O;exact⟨by rw[O],rfl⟩
  ·rw[Ab Oo]at O;exact⟨i+1,fq,⟨by omega,O,rfl⟩,by omega⟩
 ·obtain rfl:i=4:=by omega
  exact⟨by rw[O];rfl,rfl⟩
theorem qnz(x:Int)(w:Dc):Gv Do 124 [ii x] w λv w'=>v=.bool false/\w'=w:=by
 refine ze Tryz.func124 Tryz.ntmps124 ?_;exact⟨Ad Value.bool (Be (λh=>h rfl)),rfl⟩
def intC(x y:Int):Int:=if x<y then -1 else if y<x then 1 else 0
theorem qgp(x y:Int)(w:Dc):Gv Do 59 [ii x,ii y] w λv w'=>v=ii (intC x y)/\w'=w:=by
 refine ze Tryz.func59 Tryz.ntmps59 ?_;refine zcv (qnz x w) ?_;rintro r H ⟨rfl,rfl⟩;(conv=>whnf);refine zcv (qnz y H) ?_;rintro r O ⟨rfl,rfl⟩;conv=>whnf
 (repeat'(first|refine zp ?_|refine zC (λ_=>zw ?_) (λ_=>zw ?_)))
 ·exact⟨by rw[intC,Af Oo],rfl⟩
 ·exact⟨by rw[intC,Ab Oo,Af Oo],rfl⟩
 ·exact⟨by rw[intC,Ab Oo,Ab Oo],rfl⟩
theorem q5w:∀a b:LB,Lib.compareBytes a b=if a<b then -1 else if a=b then 0 else 1
 | [],[]=>rfl
 | [],_::_=>by rw[Lib.compareBytes,Af (List.nil_lt_cons _ _)]
 | _::_,[]=>by rw[Lib.compareBytes,Ab (List.not_lt_nil _),Ab Js]
 | x::a,y::b=>by
  rw[Lib.compareBytes]
  by_cases H:x<y
  ·rw[Af H,Af (AX.2 (.inl H))]
  ·rw[Ab H]
   by_cases O:y<x
   ·rw[Af O,Ab (λg=>(AX.1 g).elim H λe=>by rw[e.1]at O;exact UInt8.lt_irrefl _ O),Ab (λg=>by cases g;exact UInt8.lt_irrefl _ O)]
   ·have e:x=y:=by
     rw[UInt8.lt_iff_toNat_lt]at H O;exact UInt8.toNat_inj.1 Oo
    subst e;rw[Ab O,q5w a b]
    by_cases U:a<b
    ·rw[Af U,Af (AX.2 (.inr ⟨rfl,U⟩))]
    ·rw[Ab U,Ab (λg=>(AX.1 g).elim H λe=>U e.2)]
     by_cases W:a=b
     ·rw[Af W,Af (by rw[W])]
     ·rw[Ab W,Ab (λg=>W (List.cons.inj g).2)]
theorem qel(a b:Dd)(w:Dc):Gv Do 60 [.string a,.string b] w λv w'=>v=ii (txtC a b)/\w'=w:=by
 refine qew Jk ((Tryz.strings_Compare a b w).mono ?_);rintro e w' ⟨rfl,rfl⟩;refine⟨_,rfl,Ad (Value.int .i64) ?_,rfl⟩;rw[q5w,txtC]
 by_cases H:a.data.toList<b.data.toList
 ·rw[Af H,Af (qc4.2 H)]
 ·rw[Ab H,Ab (λg=>H (qc4.1 g))]
  by_cases O:a.data.toList=b.data.toList
  ·rw[Af O,Af (qa1.2 (qeu O))]
  ·rw[Ab O,Ab (λg=>O (by rw[qa1.1 g]))]
theorem qw7(a b:TM):or4 (intC a.kind b.kind) (txtC a.text b.text) (txtC a.type b.type) (txtC a.lang b.lang)=cmpT a b:=by
 by_cases h:a.kind≠b.kind
 ·by_cases O:a.kind<b.kind
  ·have H:intC a.kind b.kind=-1:=by rw[intC,Af O]
   rw[H,cmpT,Af h,Af O];rfl
  ·have H:intC a.kind b.kind=1:=by rw[intC,Ab O,Af Oo]
   rw[H,cmpT,Af h,Ab O];rfl
 ·have H:intC a.kind b.kind=0:=by rw[intC,Ab Oo,Ab Oo]
  rw[H,cmpT,Ab h];rfl
theorem qdd(a b:TM)(w:Dc):Gv Do 20 [qq a,qq b] w λr w'=>r=ii (cmpT a b)/\Ext w w':=by
 refine ze Tryz.func20 Tryz.ntmps20 ?_;refine znm (Mem.nil w) ?_;intro b1 w1 U;refine znm U ?_;intro b2 w2 U;refine DrawV.free rfl Jk (zw ?_);refine zd ?_;refine zLd ?_;refine zd ?_;refine zLd ?_;apply zsd
 ·intro wd H;(conv=>whnf);refine zcv (qgp a.kind b.kind wd) ?_;rintro v O ⟨rfl,rfl⟩;exact xq
 (conv=>whnf);refine zd ?_;refine zLd ?_;refine zd ?_;refine zLd ?_;apply zsd
 ·intro wd H;(conv=>whnf);refine zcv (qel a.text b.text wd) ?_;rintro v O ⟨rfl,rfl⟩;exact xq
 (conv=>whnf);refine zd ?_;refine zLd ?_;refine zd ?_;refine zLd ?_;apply zsd
 ·intro wd H;(conv=>whnf);refine zcv (qel a.type b.type wd) ?_;rintro v O ⟨rfl,rfl⟩;exact xq
 (conv=>whnf);refine zd ?_;refine zLd ?_;refine zd ?_;refine zLd ?_;apply zsd
 ·intro wd H;(conv=>whnf);refine zcv (qel a.lang b.lang wd) ?_;rintro v O ⟨rfl,rfl⟩;exact xq
 (conv=>whnf);apply StepD.of (λv W=>∃nb,v=.slice (some ⟨nb,0,none⟩) 4 4/\W.heap[nb]?=some (.cells #[ii (intC a.kind b.kind),ii (txtC a.text b.text),ii (txtC a.type b.type),ii (txtC a.lang b.lang)] 3)) (λ_ _ _ h Z=>let⟨nb,h1,h2⟩:=h;⟨nb,h1,Z.get h2⟩)
 ·intro wd H;(conv=>whnf);refine⟨λnb W hb hw=>?_⟩;subst hb hw;(conv=>whnf);exact⟨(Ext.refl wd).alloc _,_,rfl,heap_alloc_new wd _⟩
 apply zsd
 ·intro wd H;rintro v ⟨nb,rfl,hn⟩;(conv=>whnf);refine zcv (qqb _ _ _ _ nb wd hn) ?_;rintro v O ⟨rfl,rfl⟩;rw[qw7];exact xq
 (conv=>whnf);refine zd ?_;intro wd H;conv=>whnf
 (repeat(intro _ _;(conv=>whnf)))
 exact⟨rfl,(U.drew.call H).ext⟩
def tmA(X:List TM)(i:Nat):TM:=X.getD i zTM
theorem qjv(h:i<X.length):tmA X i=X[i]:=by grind [tmA]
def unqN(X:List TM):Nat->List TM
 | 0=>[]
 | p+1=>if 0<p/\qai (tmA X p) (tmA X (p-1))=true then unqN X p else unqN X p++[tmA X p]
theorem qo7{p:Nat}(H:0<p)(h:qai (tmA X p) (tmA X (p-1))=true):unqN X (p+1)=unqN X p:=by grind [unqN]
theorem qt0{p:Nat}(h:qai (tmA X p) (tmA X (p-1))=false):unqN X (p+1)=unqN X p++[tmA X p]:=by grind [unqN]
theorem q49(X:List TM):unqN X 1=[tmA X 0]:=by rfl
theorem q48(X:List TM):∀p,(unqN X p).length<=p
 | 0=>Ao _
 | p+1=>by
  have:=q48 X p;rw[unqN]
  split
  ·omega
  ·rw[zla,Bv];omega
theorem qgi{X:List TM}:∀{p:Nat},p<=X.length->(∀i,0<i->i<p->qai (tmA X i) (tmA X (i-1))=false)->unqN X p=X.take p
 | 0,_,_=>rfl
 | p+1,W,h=>by
  have H:=qgi (p:=p) Oo λi O Z=>h i O Oo
  have e:X.take (p+1)=X.take p++[tmA X p]:=by rw[Bg Oo,qjv Oo]
  rw[e,<-H]
  rcases B0 p with rfl|U
  ·exact q49 X
  ·exact qt0 (h p U Oo)
theorem qmx{X:List TM}{t:TM}:∀{p:Nat},t∈unqN X p↔∃i,i<p/\tmA X i=t
 | 0=>by simp[unqN]
 | p+1=>by
  have U:=qmx (X:=X) (t:=t) (p:=p);rw[unqN]
  split
  ·rename_i h
   rw[U]
   constructor
   ·rintro⟨i,O,H⟩;exact⟨i,by omega,H⟩
   ·rintro⟨i,O,H⟩
    rcases AH i p with g|g
    ·exact⟨i,g,H⟩
    ·obtain rfl:i=p:=by omega
     exact⟨i-1,by omega,by rw[<-H,qu.1 h.2]⟩
  ·rw[AJ,U,Ac]
   constructor
   ·rintro(⟨i,O,H⟩|h)
    ·exact⟨i,by omega,H⟩
    ·exact⟨p,by omega,h.symm⟩
   ·rintro⟨i,O,H⟩
    rcases AH i p with g|g
    ·exact .inl ⟨i,g,H⟩
    ·obtain rfl:i=p:=by omega
     exact .inr H.symm
def AscT(X:List TM):Prop:=∀i j,i<j->j<X.length->¬LtT (tmA X j) (tmA X i)
theorem qo6{X:List TM}(h:AscT X):∀{p:Nat},p<=X.length->RiseT (unqN X p)
 | 0,_=>List.Pairwise.nil
 | p+1,hp=>by
  have U:=qo6 h (p:=p) Oo;rw[unqN]
  split
  ·exact U
  ·rename_i Z
   refine Cj.2 ⟨U,BW _ _,λu hu v hv=>?_⟩;rw[Ac.1 hv];obtain⟨i,hi,rfl⟩:=qmx.1 hu
   rcases LtT.tri (tmA X i) (tmA X p)with g|g|g
   ·exact g
   ·exfalso
    have H:¬qai (tmA X p) (tmA X (p-1))=true:=λe=>Z ⟨by omega,e⟩
    by_cases O:i=p-1
    ·subst O;exact H (qu.2 g.symm)
    ·have W:=h i (p-1) Oo Oo;have g2:=h (p-1) p Oo Oo;rw[g]at W
     rcases LtT.tri (tmA X (p-1)) (tmA X p)with q|q|q
     ·exact W q
     ·exact H (qu.2 q.symm)
     ·exact g2 q
   ·exact absurd g (h i p hi Oo)
theorem q96{t:TM}:(∃i,i<X.length/\tmA X i=t)↔t∈X:=by
 constructor
 ·grind [qjv]
 ·intro h;obtain⟨i,H,e⟩:=BJ.1 h;exact⟨i,H,by rw[qjv H,e]⟩
theorem q5a(h:AscT X)(H:∀t,t∈X↔t∈trms qs):unqN X X.length=tmsQ qs:=
 RiseT.ext (qo6 h znr) (qd8 qs) λy=>by
  rw[qmx,q96,H,qdg,qs1]
instance:Inhabited TM:=⟨zTM⟩
theorem qnh(a b:TM)(w:Dc):Gv Do 20 [qq a,qq b] w λr w'=>r=ii (cmpT a b)/\ExtE w w':=by
 refine gv Jk Tryz.func20 rfl Tryz.ntmps20 rfl (zw ?_);refine⟨λb1 w1 ab Z=>?_⟩;have hm:=(Mem.nil w).new ab Z;have hx:ExtE w w1:=by rw[Z];exact(ExtE.refl w).alloc _
 clear ab Z;(conv=>whnf);refine⟨λb2 w2 ac aa=>?_⟩;have hm:=hm.new ac aa;have hx:ExtE w w2:=by rw[aa];exact hx.alloc _
 clear ac aa;(conv=>whnf);refine DrawV.gen (λS H w'=>ExtE w w'/\Mem w w' [(b2,.cells (encT b).toArray 45),(b1,.cells (encT a).toArray 45)]/\(S 20=true->∃nb,H 20=.slice (some ⟨nb,0,none⟩) 4 4/\w'.heap[nb]?=some (.cells #[ii (intC a.kind b.kind),ii (txtC a.text b.text),ii (txtC a.type b.type),ii (txtC a.lang b.lang)] 3))) rfl Jk (λH=>⟨hx.trans (ExtE.drew _),hm.drew,λh=>by cases h⟩) (zw ?_);(apply StepG.of;(· intro S H wd W U O;(conv=>whnf);(first|exact⟨rfl,O⟩|((repeat'(first|(refine Obl.mk ⟨by omega,by omega⟩ ?_;conv=>whnf)|(refine Obl.mk ⟨by omega,by omega,⟨by omega,by omega⟩⟩ ?_;conv=>whnf)|((with_reducible refine Tst.tt ?_);conv=>whnf)|((with_reducible refine Tst.ff ?_);conv=>whnf)|((with_reducible refine Tst.dec (λ_=>?_) (λ_=>?_))<;>first|(exfalso;omega)|(conv=>whnf))|((with_reducible refine Tst.not ?_))|(refine Wit.conv ⟨by omega,by omega⟩ ?_;conv=>whnf)|((with_reducible refine IdxV.nat Oo ?_);conv=>whnf)|((with_reducible refine IdxV.at_ 0 ?_ Od ?_);rfl;(conv=>whnf))|((with_reducible refine IdxV.at_ 1 ?_ Od ?_);rfl;(conv=>whnf))|((with_reducible refine IdxV.at_ 2 ?_ Od ?_);rfl;(conv=>whnf))|((with_reducible refine IdxV.at_ 3 ?_ Od ?_);rfl;(conv=>whnf))|((with_reducible refine SameW.mk rfl ?_);conv=>whnf)|((with_reducible refine Tst.beqT ?_))|((with_reducible refine Tst.beqF ?_))|(refine Tst.yes rfl ?_;conv=>whnf)|(refine Tst.no rfl ?_;conv=>whnf)));exact⟨rfl,O⟩)));(conv=>whnf));apply StepG.of
 ·intro S H wd W U O;refine LoadV.mem O.2.1 (i:=1) rfl rfl (zw ?_);exact⟨rfl,O⟩
 (conv=>whnf);(apply StepG.of;(· intro S H wd W U O;(conv=>whnf);(first|exact⟨rfl,O⟩|((repeat'(first|(refine Obl.mk ⟨by omega,by omega⟩ ?_;conv=>whnf)|(refine Obl.mk ⟨by omega,by omega,⟨by omega,by omega⟩⟩ ?_;conv=>whnf)|((with_reducible refine Tst.tt ?_);conv=>whnf)|((with_reducible refine Tst.ff ?_);conv=>whnf)|((with_reducible refine Tst.dec (λ_=>?_) (λ_=>?_))<;>first|(exfalso;omega)|(conv=>whnf))|((with_reducible refine Tst.not ?_))|(refine Wit.conv ⟨by omega,by omega⟩ ?_;conv=>whnf)|((with_reducible refine IdxV.nat Oo ?_);conv=>whnf)|((with_reducible refine IdxV.at_ 0 ?_ Od ?_);rfl;(conv=>whnf))|((with_reducible refine IdxV.at_ 1 ?_ Od ?_);rfl;(conv=>whnf))|((with_reducible refine IdxV.at_ 2 ?_ Od ?_);rfl;(conv=>whnf))|((with_reducible refine IdxV.at_ 3 ?_ Od ?_);rfl;(conv=>whnf))|((with_reducible refine SameW.mk rfl ?_);conv=>whnf)|((with_reducible refine Tst.beqT ?_))|((with_reducible refine Tst.beqF ?_))|(refine Tst.yes rfl ?_;conv=>whnf)|(refine Tst.no rfl ?_;conv=>whnf)));exact⟨rfl,O⟩)));(conv=>whnf));apply StepG.of
 ·intro S H wd W U O;refine LoadV.mem O.2.1 (i:=0) rfl rfl (zw ?_);exact⟨rfl,O⟩
 apply StepG.of
 ·intro S H wd W U O;(conv=>whnf);refine zcv (qgp a.kind b.kind wd) ?_;rintro v w7 ⟨rfl,rfl⟩;exact⟨rfl,O⟩
 (conv=>whnf);(apply StepG.of;(· intro S H wd W U O;(conv=>whnf);(first|exact⟨rfl,O⟩|((repeat'(first|(refine Obl.mk ⟨by omega,by omega⟩ ?_;conv=>whnf)|(refine Obl.mk ⟨by omega,by omega,⟨by omega,by omega⟩⟩ ?_;conv=>whnf)|((with_reducible refine Tst.tt ?_);conv=>whnf)|((with_reducible refine Tst.ff ?_);conv=>whnf)|((with_reducible refine Tst.dec (λ_=>?_) (λ_=>?_))<;>first|(exfalso;omega)|(conv=>whnf))|((with_reducible refine Tst.not ?_))|(refine Wit.conv ⟨by omega,by omega⟩ ?_;conv=>whnf)|((with_reducible refine IdxV.nat Oo ?_);conv=>whnf)|((with_reducible refine IdxV.at_ 0 ?_ Od ?_);rfl;(conv=>whnf))|((with_reducible refine IdxV.at_ 1 ?_ Od ?_);rfl;(conv=>whnf))|((with_reducible refine IdxV.at_ 2 ?_ Od ?_);rfl;(conv=>whnf))|((with_reducible refine IdxV.at_ 3 ?_ Od ?_);rfl;(conv=>whnf))|((with_reducible refine SameW.mk rfl ?_);conv=>whnf)|((with_reducible refine Tst.beqT ?_))|((with_reducible refine Tst.beqF ?_))|(refine Tst.yes rfl ?_;conv=>whnf)|(refine Tst.no rfl ?_;conv=>whnf)));exact⟨rfl,O⟩)));(conv=>whnf));apply StepG.of
 ·intro S H wd W U O;refine LoadV.mem O.2.1 (i:=1) rfl rfl (zw ?_);exact⟨rfl,O⟩
 (conv=>whnf);(apply StepG.of;(· intro S H wd W U O;(conv=>whnf);(first|exact⟨rfl,O⟩|((repeat'(first|(refine Obl.mk ⟨by omega,by omega⟩ ?_;conv=>whnf)|(refine Obl.mk ⟨by omega,by omega,⟨by omega,by omega⟩⟩ ?_;conv=>whnf)|((with_reducible refine Tst.tt ?_);conv=>whnf)|((with_reducible refine Tst.ff ?_);conv=>whnf)|((with_reducible refine Tst.dec (λ_=>?_) (λ_=>?_))<;>first|(exfalso;omega)|(conv=>whnf))|((with_reducible refine Tst.not ?_))|(refine Wit.conv ⟨by omega,by omega⟩ ?_;conv=>whnf)|((with_reducible refine IdxV.nat Oo ?_);conv=>whnf)|((with_reducible refine IdxV.at_ 0 ?_ Od ?_);rfl;(conv=>whnf))|((with_reducible refine IdxV.at_ 1 ?_ Od ?_);rfl;(conv=>whnf))|((with_reducible refine IdxV.at_ 2 ?_ Od ?_);rfl;(conv=>whnf))|((with_reducible refine IdxV.at_ 3 ?_ Od ?_);rfl;(conv=>whnf))|((with_reducible refine SameW.mk rfl ?_);conv=>whnf)|((with_reducible refine Tst.beqT ?_))|((with_reducible refine Tst.beqF ?_))|(refine Tst.yes rfl ?_;conv=>whnf)|(refine Tst.no rfl ?_;conv=>whnf)));exact⟨rfl,O⟩)));(conv=>whnf));apply StepG.of
 ·intro S H wd W U O;refine LoadV.mem O.2.1 (i:=0) rfl rfl (zw ?_);exact⟨rfl,O⟩
 apply StepG.of
 ·intro S H wd W U O;(conv=>whnf);refine zcv (qel a.text b.text wd) ?_;rintro v w7 ⟨rfl,rfl⟩;exact⟨rfl,O⟩
 (conv=>whnf);(apply StepG.of;(· intro S H wd W U O;(conv=>whnf);(first|exact⟨rfl,O⟩|((repeat'(first|(refine Obl.mk ⟨by omega,by omega⟩ ?_;conv=>whnf)|(refine Obl.mk ⟨by omega,by omega,⟨by omega,by omega⟩⟩ ?_;conv=>whnf)|((with_reducible refine Tst.tt ?_);conv=>whnf)|((with_reducible refine Tst.ff ?_);conv=>whnf)|((with_reducible refine Tst.dec (λ_=>?_) (λ_=>?_))<;>first|(exfalso;omega)|(conv=>whnf))|((with_reducible refine Tst.not ?_))|(refine Wit.conv ⟨by omega,by omega⟩ ?_;conv=>whnf)|((with_reducible refine IdxV.nat Oo ?_);conv=>whnf)|((with_reducible refine IdxV.at_ 0 ?_ Od ?_);rfl;(conv=>whnf))|((with_reducible refine IdxV.at_ 1 ?_ Od ?_);rfl;(conv=>whnf))|((with_reducible refine IdxV.at_ 2 ?_ Od ?_);rfl;(conv=>whnf))|((with_reducible refine IdxV.at_ 3 ?_ Od ?_);rfl;(conv=>whnf))|((with_reducible refine SameW.mk rfl ?_);conv=>whnf)|((with_reducible refine Tst.beqT ?_))|((with_reducible refine Tst.beqF ?_))|(refine Tst.yes rfl ?_;conv=>whnf)|(refine Tst.no rfl ?_;conv=>whnf)));exact⟨rfl,O⟩)));(conv=>whnf));apply StepG.of
 ·intro S H wd W U O;refine LoadV.mem O.2.1 (i:=1) rfl rfl (zw ?_);exact⟨rfl,O⟩
 (conv=>whnf);(apply StepG.of;(· intro S H wd W U O;(conv=>whnf);(first|exact⟨rfl,O⟩|((repeat'(first|(refine Obl.mk ⟨by omega,by omega⟩ ?_;conv=>whnf)|(refine Obl.mk ⟨by omega,by omega,⟨by omega,by omega⟩⟩ ?_;conv=>whnf)|((with_reducible refine Tst.tt ?_);conv=>whnf)|((with_reducible refine Tst.ff ?_);conv=>whnf)|((with_reducible refine Tst.dec (λ_=>?_) (λ_=>?_))<;>first|(exfalso;omega)|(conv=>whnf))|((with_reducible refine Tst.not ?_))|(refine Wit.conv ⟨by omega,by omega⟩ ?_;conv=>whnf)|((with_reducible refine IdxV.nat Oo ?_);conv=>whnf)|((with_reducible refine IdxV.at_ 0 ?_ Od ?_);rfl;(conv=>whnf))|((with_reducible refine IdxV.at_ 1 ?_ Od ?_);rfl;(conv=>whnf))|((with_reducible refine IdxV.at_ 2 ?_ Od ?_);rfl;(conv=>whnf))|((with_reducible refine IdxV.at_ 3 ?_ Od ?_);rfl;(conv=>whnf))|((with_reducible refine SameW.mk rfl ?_);conv=>whnf)|((with_reducible refine Tst.beqT ?_))|((with_reducible refine Tst.beqF ?_))|(refine Tst.yes rfl ?_;conv=>whnf)|(refine Tst.no rfl ?_;conv=>whnf)));exact⟨rfl,O⟩)));(conv=>whnf));apply StepG.of
 ·intro S H wd W U O;refine LoadV.mem O.2.1 (i:=0) rfl rfl (zw ?_);exact⟨rfl,O⟩
 apply StepG.of
 ·intro S H wd W U O;(conv=>whnf);refine zcv (qel a.type b.type wd) ?_;rintro v w7 ⟨rfl,rfl⟩;exact⟨rfl,O⟩
 (conv=>whnf);(apply StepG.of;(· intro S H wd W U O;(conv=>whnf);(first|exact⟨rfl,O⟩|((repeat'(first|(refine Obl.mk ⟨by omega,by omega⟩ ?_;conv=>whnf)|(refine Obl.mk ⟨by omega,by omega,⟨by omega,by omega⟩⟩ ?_;conv=>whnf)|((with_reducible refine Tst.tt ?_);conv=>whnf)|((with_reducible refine Tst.ff ?_);conv=>whnf)|((with_reducible refine Tst.dec (λ_=>?_) (λ_=>?_))<;>first|(exfalso;omega)|(conv=>whnf))|((with_reducible refine Tst.not ?_))|(refine Wit.conv ⟨by omega,by omega⟩ ?_;conv=>whnf)|((with_reducible refine IdxV.nat Oo ?_);conv=>whnf)|((with_reducible refine IdxV.at_ 0 ?_ Od ?_);rfl;(conv=>whnf))|((with_reducible refine IdxV.at_ 1 ?_ Od ?_);rfl;(conv=>whnf))|((with_reducible refine IdxV.at_ 2 ?_ Od ?_);rfl;(conv=>whnf))|((with_reducible refine IdxV.at_ 3 ?_ Od ?_);rfl;(conv=>whnf))|((with_reducible refine SameW.mk rfl ?_);conv=>whnf)|((with_reducible refine Tst.beqT ?_))|((with_reducible refine Tst.beqF ?_))|(refine Tst.yes rfl ?_;conv=>whnf)|(refine Tst.no rfl ?_;conv=>whnf)));exact⟨rfl,O⟩)));(conv=>whnf));apply StepG.of
 ·intro S H wd W U O;refine LoadV.mem O.2.1 (i:=1) rfl rfl (zw ?_);exact⟨rfl,O⟩
 (conv=>whnf);(apply StepG.of;(· intro S H wd W U O;(conv=>whnf);(first|exact⟨rfl,O⟩|((repeat'(first|(refine Obl.mk ⟨by omega,by omega⟩ ?_;conv=>whnf)|(refine Obl.mk ⟨by omega,by omega,⟨by omega,by omega⟩⟩ ?_;conv=>whnf)|((with_reducible refine Tst.tt ?_);conv=>whnf)|((with_reducible refine Tst.ff ?_);conv=>whnf)|((with_reducible refine Tst.dec (λ_=>?_) (λ_=>?_))<;>first|(exfalso;omega)|(conv=>whnf))|((with_reducible refine Tst.not ?_))|(refine Wit.conv ⟨by omega,by omega⟩ ?_;conv=>whnf)|((with_reducible refine IdxV.nat Oo ?_);conv=>whnf)|((with_reducible refine IdxV.at_ 0 ?_ Od ?_);rfl;(conv=>whnf))|((with_reducible refine IdxV.at_ 1 ?_ Od ?_);rfl;(conv=>whnf))|((with_reducible refine IdxV.at_ 2 ?_ Od ?_);rfl;(conv=>whnf))|((with_reducible refine IdxV.at_ 3 ?_ Od ?_);rfl;(conv=>whnf))|((with_reducible refine SameW.mk rfl ?_);conv=>whnf)|((with_reducible refine Tst.beqT ?_))|((with_reducible refine Tst.beqF ?_))|(refine Tst.yes rfl ?_;conv=>whnf)|(refine Tst.no rfl ?_;conv=>whnf)));exact⟨rfl,O⟩)));(conv=>whnf));apply StepG.of
 ·intro S H wd W U O;refine LoadV.mem O.2.1 (i:=0) rfl rfl (zw ?_);exact⟨rfl,O⟩
 apply StepG.of
 ·intro S H wd W U O;(conv=>whnf);refine zcv (qel a.lang b.lang wd) ?_;rintro v w7 ⟨rfl,rfl⟩;exact⟨rfl,O⟩
 refine StepG.any (λS H wd W U O=>zw ?_) ?_
 ·refine⟨λnb wx hb hw=>?_⟩;have hm:=O.2.1.new hb hw;subst hb hw;(conv=>whnf);exact⟨trivial,O.1.trans ((ExtE.refl wd).alloc _),hm.sub (Bm ..),λ_=>⟨_,rfl,heap_alloc_new wd _⟩⟩
 apply StepG.of
 ·intro S H wd W U O;obtain⟨nb,e,hn⟩:=O.2.2 (U 20 Od);rw[qbj e];(conv=>whnf);refine zcv (qqb _ _ _ _ nb wd hn) ?_;rintro v w7 ⟨rfl,rfl⟩;rw[qw7];exact⟨rfl,O.1,O.2.1,λ_=>⟨nb,rfl,hn⟩⟩
 (conv=>whnf);(apply StepG.of;(· intro S H wd W U O;(conv=>whnf);(first|exact⟨rfl,O⟩|((repeat'(first|(refine Obl.mk ⟨by omega,by omega⟩ ?_;conv=>whnf)|(refine Obl.mk ⟨by omega,by omega,⟨by omega,by omega⟩⟩ ?_;conv=>whnf)|((with_reducible refine Tst.tt ?_);conv=>whnf)|((with_reducible refine Tst.ff ?_);conv=>whnf)|((with_reducible refine Tst.dec (λ_=>?_) (λ_=>?_))<;>first|(exfalso;omega)|(conv=>whnf))|((with_reducible refine Tst.not ?_))|(refine Wit.conv ⟨by omega,by omega⟩ ?_;conv=>whnf)|((with_reducible refine IdxV.nat Oo ?_);conv=>whnf)|((with_reducible refine IdxV.at_ 0 ?_ Od ?_);rfl;(conv=>whnf))|((with_reducible refine IdxV.at_ 1 ?_ Od ?_);rfl;(conv=>whnf))|((with_reducible refine IdxV.at_ 2 ?_ Od ?_);rfl;(conv=>whnf))|((with_reducible refine IdxV.at_ 3 ?_ Od ?_);rfl;(conv=>whnf))|((with_reducible refine SameW.mk rfl ?_);conv=>whnf)|((with_reducible refine Tst.beqT ?_))|((with_reducible refine Tst.beqF ?_))|(refine Tst.yes rfl ?_;conv=>whnf)|(refine Tst.no rfl ?_;conv=>whnf)));exact⟨rfl,O⟩)));(conv=>whnf));intro H wd O;(conv=>whnf);exact⟨rfl,O.1⟩
theorem qw8(a:TM):cmpT a a=0:=qa4.2 rfl
theorem swoT:Sort.SWO (ltOf cmpT) where
 irrefl x:=by rw[ltOf,qw8];rfl
 trans x y z W O:=by
  rw[ltOf,decide_eq_true_iff,qap]at *;exact W.trans O
 ntrans x y z W O:=by
  rw[ltOf,decide_eq_false_iff_not,qap]at *;intro Z
  rcases LtT.tri x y with h|h|h
  ·exact W h
  ·subst h;exact O Z
  ·exact O (h.trans Z)
theorem q43(g n:Nat)(w:Dc):CmpLays Do 20 #[] encT 4 cmpT g 0 n w:=by
 intro m O U _ x y;refine(qnh x y _).2.mono ?_;rintro e w' ⟨v,rfl,rfl,H⟩;exact⟨rfl,H.grow⟩
theorem q95(args:Dp)(w:Dc):(callFunc 20 args).run Do w=.ok (.enter 20 args) w:=enters_of Tryz.func20 Jk rfl args w
theorem qv4(T:List TM)(A:oA)(n c:Nat)(w:Dc)(hS:SlAt encT 4 w A T)(hn:T.length=n)(hl:n<=1000000000000):
  Gv Do 326 [.slice A n c] w λr w'=>∃W Z,r=.slice W n Z/\Ext w w'/\w'.ownsRow w.heap.size 45 4 (.slice W n Z) n (T.map encT).flatten:=by
 subst hn;cases A with
 | none=>
  have h0:T=[]:=by
   cases T with
   | nil=>rfl
   | cons x r=>obtain⟨b,O,h0,_⟩:=hS.at_ Js;cases h0
  subst h0;refine gv Jk Tryz.func326 rfl Tryz.ntmps326 rfl (zw ?_)
  (repeat'(first
   | (refine Obl.mk ⟨by omega,by omega⟩ ?_;conv=>whnf)
   | (refine Obl.mk ⟨by omega,by omega,⟨by omega,by omega⟩⟩ ?_;conv=>whnf)
   | ((with_reducible refine Tst.tt ?_);conv=>whnf)
   | ((with_reducible refine Tst.ff ?_);conv=>whnf)
   | ((with_reducible refine Tst.dec (λ_=>?_) (λ_=>?_))<;>first|(exfalso;omega)|(conv=>whnf))
   | ((with_reducible refine Tst.not ?_))
   | (refine Wit.conv ⟨by omega,by omega⟩ ?_;conv=>whnf)
   | ((with_reducible refine IdxV.nat Oo ?_);conv=>whnf)|((with_reducible refine IdxV.at_ 0 ?_ Od ?_);rfl;(conv=>whnf))|((with_reducible refine IdxV.at_ 1 ?_ Od ?_);rfl;(conv=>whnf))|((with_reducible refine IdxV.at_ 2 ?_ Od ?_);rfl;(conv=>whnf))|((with_reducible refine IdxV.at_ 3 ?_ Od ?_);rfl;(conv=>whnf))
   | ((with_reducible refine SameW.mk rfl ?_);conv=>whnf)
   | (refine LoadV.mem (i:=0) Oa rfl rfl ?_;conv=>whnf)
   | (refine LoadV.mem (i:=1) Oa rfl rfl ?_;conv=>whnf)
   | (refine LoadV.mem (i:=2) Oa rfl rfl ?_;conv=>whnf)
   | ((with_reducible refine Tst.beqT ?_))
   | ((with_reducible refine Tst.beqF ?_))
   | (refine Tst.yes rfl ?_;conv=>whnf)
   | (refine Tst.no rfl ?_;conv=>whnf)))
  exact⟨none,0,rfl,Ext.refl w,World.ownsRow_nil _ _ _ _⟩
 | some a=>
  refine gv Jk Tryz.func326 rfl Tryz.ntmps326 rfl (zw ?_)
  (repeat'(first
   | (refine Obl.mk ⟨by omega,by omega⟩ ?_;conv=>whnf)
   | (refine Obl.mk ⟨by omega,by omega,⟨by omega,by omega⟩⟩ ?_;conv=>whnf)
   | ((with_reducible refine Tst.tt ?_);conv=>whnf)
   | ((with_reducible refine Tst.ff ?_);conv=>whnf)
   | ((with_reducible refine Tst.dec (λ_=>?_) (λ_=>?_))<;>first|(exfalso;omega)|(conv=>whnf))
   | ((with_reducible refine Tst.not ?_))
   | (refine Wit.conv ⟨by omega,by omega⟩ ?_;conv=>whnf)
   | ((with_reducible refine IdxV.nat Oo ?_);conv=>whnf)|((with_reducible refine IdxV.at_ 0 ?_ Od ?_);rfl;(conv=>whnf))|((with_reducible refine IdxV.at_ 1 ?_ Od ?_);rfl;(conv=>whnf))|((with_reducible refine IdxV.at_ 2 ?_ Od ?_);rfl;(conv=>whnf))|((with_reducible refine IdxV.at_ 3 ?_ Od ?_);rfl;(conv=>whnf))
   | ((with_reducible refine SameW.mk rfl ?_);conv=>whnf)
   | (refine LoadV.mem (i:=0) Oa rfl rfl ?_;conv=>whnf)
   | (refine LoadV.mem (i:=1) Oa rfl rfl ?_;conv=>whnf)
   | (refine LoadV.mem (i:=2) Oa rfl rfl ?_;conv=>whnf)
   | ((with_reducible refine Tst.beqT ?_))
   | ((with_reducible refine Tst.beqF ?_))
   | (refine Tst.yes rfl ?_;conv=>whnf)
   | (refine Tst.no rfl ?_;conv=>whnf)))
  refine⟨λnb w1 U hw=>?_⟩;have he:Ext w w1:=by rw[hw];exact(Ext.refl w).alloc _
  have hc:w1.heap[nb]?=some (.cells #[] 45):=by rw[hw,U];exact heap_alloc_new w _
  have ho:w1.ownsRow w.heap.size 45 4 (.slice (some ⟨nb,0,none⟩) 0 0) 0 []:=⟨rfl,.inr ⟨nb,0,#[],rfl,by omega,hc,Ao _,An _,rfl,rfl⟩⟩
  have aa:=qbs encT 4 qaf T;(conv=>whnf);refine AppV.own (news:=(T.map encT).flatten) qv9 trmI trmZ Jk Jk Od ho he.size aa (λab=>?_) (λu hu=>?_) (by rw[show((Do.info? 45).get Jk).bytes=56 from by kernel_rfl];omega) Oo ?_
  ·obtain⟨b,O,h1,h2⟩:=(hS.ext he).at_ (by rintro rfl;exact ab rfl);exact⟨b,O,h1,qfl Od qaf h2⟩
  ·obtain⟨l,ac,ad⟩:=List.mem_flatten.1 hu;obtain⟨t,_,rfl⟩:=AI.1 ac;exact qaa t u ad
  ·intro v' w2 H hg _;have H:w2.ownsRow w.heap.size 45 4 v' T.length (T.map encT).flatten:=by rw[Aq]at H;exact H
   obtain⟨W,Z,rfl⟩:=qbn H;(conv=>whnf);refine⟨W,Z,rfl,(Chn.grown hg).ext he λk hk=>?_,H⟩;rw[Ac.1 hk,U];exact Ao _
theorem qoz(A:oA)(n c:Nat)(H:n<=c)(O:A=none\/∃g o,A=some ⟨g,o,none⟩)(w:Dc):Gv Do 327 [.slice A n c] w λv w'=>v=.slice A n n/\w'=w:=by
 refine gv Jk Tryz.func327 rfl Tryz.ntmps327 rfl (zw ?_)
 (repeat'(first
   | (refine Obl.mk ⟨by omega,by omega⟩ ?_;conv=>whnf)
   | (refine Obl.mk ⟨by omega,by omega,⟨by omega,by omega⟩⟩ ?_;conv=>whnf)
   | ((with_reducible refine Tst.tt ?_);conv=>whnf)
   | ((with_reducible refine Tst.ff ?_);conv=>whnf)
   | ((with_reducible refine Tst.dec (λ_=>?_) (λ_=>?_))<;>first|(exfalso;omega)|(conv=>whnf))
   | ((with_reducible refine Tst.not ?_))
   | (refine Wit.conv ⟨by omega,by omega⟩ ?_;conv=>whnf)
   | ((with_reducible refine IdxV.nat Oo ?_);conv=>whnf)|((with_reducible refine IdxV.at_ 0 ?_ Od ?_);rfl;(conv=>whnf))|((with_reducible refine IdxV.at_ 1 ?_ Od ?_);rfl;(conv=>whnf))|((with_reducible refine IdxV.at_ 2 ?_ Od ?_);rfl;(conv=>whnf))|((with_reducible refine IdxV.at_ 3 ?_ Od ?_);rfl;(conv=>whnf))
   | ((with_reducible refine SameW.mk rfl ?_);conv=>whnf)
   | (refine LoadV.mem (i:=0) Oa rfl rfl ?_;conv=>whnf)
   | (refine LoadV.mem (i:=1) Oa rfl rfl ?_;conv=>whnf)
   | (refine LoadV.mem (i:=2) Oa rfl rfl ?_;conv=>whnf)
   | ((with_reducible refine Tst.beqT ?_))
   | ((with_reducible refine Tst.beqF ?_))
   | (refine Tst.yes rfl ?_;conv=>whnf)
   | (refine Tst.no rfl ?_;conv=>whnf)))
 refine⟨0,n,n,rfl,rfl,rfl,An _,Ao _,H,λ_=>rfl,λU e=>?_⟩;have W:U=A:=by
  rw[e]
  split
  ·rfl
  ·rcases O with rfl|⟨g,o,rfl⟩
   ·rfl
   ·simp[Addr.add]
 subst W;(conv=>whnf);exact⟨rfl,rfl⟩
theorem qx6(d:Array TM)(i:Nat):d[i]! = tmA d.toList i:=by
 rw[tmA,Am,Cr]
 by_cases h:i<d.size
 ·rw[getElem!_pos d i h,BT h];rfl
 ·rw[getElem!_neg d i h,Cp Oo];rfl
theorem qo4(Y:List TM)(A:oA)(c base:Nat)(w:Dc)(h:w.ownsRow base 45 4 (.slice A Y.length c) Y.length (Y.map encT).flatten)(hl:Y.length<=1000000000000):
  Gv Do 123 [.slice A Y.length c,.func (.func 20) #[] #[]] w λr w'=>r=.tuple #[]/\∃Z,Z.Perm Y/\AscT Z/\w'.ownsRow base 45 4 (.slice A Y.length c) Y.length (Z.map encT).flatten/\Chn (rowF (.slice A Y.length c)) w w':=by
 rcases h.2 with⟨e1,e2⟩|⟨g,ae,cur,e1,hb,hg,hn,aa,ab,ac⟩
 ·have h0:Y=[]:=AK e2;subst h0;cases e1;refine qew Jk ((AnyF.slices_SortFunc_none { Tryz.srt with } none 0 (.func (.func 20) #[] #[]) w).mono ?_);rintro e w' ⟨rfl,rfl⟩;exact⟨_,rfl,rfl,[],List.Perm.refl _,(λi j _ hj=>by simp at hj),h,Chn.refl _ _⟩
 ·cases e1;have O:=qb1 hg;refine qew Jk ((AnyQ.slices_SortFunc Tryz.srt 4 Tryz.isAgg45 Tryz.sizeOf45 encT qaf (λx v hv=>qaa x v hv) cmpT swoT 20 #[] g 0 c Y.toArray w q95 (q43 g _ w) (q0k qaf Od hg (by rw[ac])) O Ys).mono ?_);rintro e w' ⟨rfl,H,n,os,⟨p1,_,p3⟩,hs,rfl⟩;have U:H.size=Y.length:=by simpa using p1
  obtain⟨W,r1,r2,r3⟩:=qms (m:=n) (os:=os) (d:=H) qaf Od hg (by rw[U];omega);have hp:H.toList.Perm Y:=by
   have e3:(H.extract 0 Y.toArray.size).toList=H.toList:=by
    rw[Array.toList_extract];simp[List.extract];exact Ay (by simp[U])
   have e4:(Y.toArray.extract 0 Y.toArray.size).toList=Y:=by simp
   rw[e3,e4]at p3;exact p3
  refine⟨_,rfl,rfl,H.toList,hp,λi j ad hj=>?_,⟨by rw[qbs encT 4 qaf];simp[U],.inr ⟨g,c,W,rfl,hb,r1,hn,aa,by rw[r2,ab],by rw[<-U];exact r3⟩⟩,?_⟩
  ·have h1:=hs i j (An _) ad (by simpa[U]using hj);rw[ltOf,decide_eq_false_iff_not,qap,qx6,qx6]at h1;exact h1
  ·exact qmr w g n H os O
end Go.Proofs.YtccmcfpmknpccaaGreatDoor
