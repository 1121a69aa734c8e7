/- Lemmas and contracts of functions on the way to the law's card (part 7 of 16). -/
import Derived.Test.YtccmcfpmknpccaaGreatDoorST6
namespace Go.Proofs.YtccmcfpmknpccaaGreatDoor
set_option maxHeartbeats 8000000
open Go.RowKit V
set_option maxHeartbeats 8000000
set_option maxRecDepth 100000
variable {w w' w0:Dd} {a b base c i id j k most off:Nat} {d l:LB} {L M:Dm} {P:Df} {cs cur:Dq} {vs:Dn} {A:oA} {fz:Nat×Nat} {e:Dg} {out:List TM}
def bSt(E:LB)(p:Nat):Nat->LB×Nat
 | 0=>([],p)
 | j+1=>((blk E p j).1,(blk E p j).2.1)
theorem qaa3{E:LB}{p:Nat}:∀{j:Nat},(∀i,i<j->(blk E p i).2.2=0)->blk E p j=qev E (bSt E p j).2 (decide (j=0)) (bSt E p j).1
 | 0,_=>rfl
 | j+1,h=>by
  rw[blk,Ab (by rw[h j Oo];simp)];rfl
def bRow(m:LB)(k j:Nat):Dn:=[ii (16*k+j:Nat),.string ⟨(blk (qc m) (qz m k) j).1.toArray⟩]
structure BEnd(m:LB)(k n:Nat):Prop where
 ok:∀j,j<n->16*k+j<dN m/\(blk (qc m) (qz m k) j).2.2=0
 le:n<=16
 stop:n<16->16*k+n<dN m->(blk (qc m) (qz m k) n).2.2≠0
theorem BEnd.ex(m:LB)(k:Nat):∃n,BEnd m k n:=by
 have:∀d j,j+d=16->(∀i,i<j->16*k+i<dN m/\(blk (qc m) (qz m k) i).2.2=0)->∃n,BEnd m k n:=by
  intro d
  induction d with
  | zero=>intro j O h;exact⟨j,h,by omega,λh=>by omega⟩
  | succ d U=>
   intro j O h
   by_cases H:16*k+j<dN m/\(blk (qc m) (qz m k) j).2.2=0
   ·refine U (j+1) Oo λi hi=>?_
    by_cases e:i=j
    ·subst e;exact H
    ·exact h i Oo
   ·exact⟨j,h,by omega,λ_ W Z=>H ⟨W,Z⟩⟩
 exact this 16 0 rfl λi h=>by omega
theorem qnn{m:LB}(h:DictAt w b m)(k:Nat):qz m k<=134217728:=by
 have:=qrb (qai m) (k*dW m) (dW m) h.width;unfold qz;omega
theorem qaa2{m:LB}{n:Nat}(h:BEnd m k n)(H:j<=n)(O:(qc m).length<=67108864)(hp:qz m k<=134217728):
  (bSt (qc m) (qz m k) j).1.length<=262144/\(bSt (qc m) (qz m k) j).2<=134217728:=by
 cases j with
 | zero=>exact⟨by simp[bSt],hp⟩
 | succ j=>
  have:=q5u (h.ok j Oo).2;exact⟨this.1,by have:=this.2;simp only[bSt];omega⟩
def BlkΦ(b:Nat)(m:LB)(k b1 b2:Nat)(w:Dd):Prop:=DictAt w b m/\w.cell? ⟨b1,0,none⟩=some (pp b)/\w.cell? ⟨b2,0,none⟩=some (ii k)
theorem qnd(b:Nat)(m:LB)(k n b1 b2:Nat)(hk:k<upN (dN m) 16)(W:BEnd m k n):
  SeqV Dp 370 [pp b1,pp b2] ((List.range n).map (bRow m k)) (BlkΦ b m k b1 b2):=by
 intro l I Ix w hI sI an h0 hy;obtain⟨h,h1,h2⟩:=hI 0 w h0;have ao:upN (dN m) 16<=4194304:=A6 (qbh _ _ Od) h.n;have af:(qc m).length<=67108864:=by rw[h.entries];exact h.size
 have ag:=qnn h k;refine gvW Jk Tryz.func370 rfl Tryz.ntmps370 rfl (zw ?_);refine LoadV.of h1 (zw ?_);refine LoadV.of h2 (zw ?_);refine zcv (qob b m k w h hk) ?_;rintro v w' ⟨rfl,rfl⟩;(conv=>whnf);refine LoadV.of h2 (zu ?_);refine q3l (λj:Nat=>[(0,.func (.yield l) #[] #[]),(1,pp b1),(2,pp b2),(4,ii (bSt (qc m) (qz m k) j).2),(5,.string ⟨(bSt (qc m) (qz m k) j).1.toArray⟩),(6,ii ((k:Int)*16+j))])
  (λj w'=>j<=n/\I j w') (λj=>n-j) 0 ⟨rfl,rfl,rfl,rfl,rfl,by show ii _=ii _;congr 1,trivial⟩ ⟨by omega,h0⟩ ?_
 rintro j w1 aq ⟨hj,U⟩;obtain⟨Z,aa,ah⟩:=hI j w1 U;obtain⟨ar,au⟩:=qaa2 W hj af ag;have hb:=λhg:∀i,i<j->(blk (qc m) (qz m k) i).2.2=0=>qaa3 hg
 have hb:=hb λi hi=>(W.ok i Oo).2
 have av:=W.le;(conv=>whnf);refine LoadV.of aa (zw ?_);obtain⟨⟨P,cp,E,ce,ai,_,_,_⟩,_⟩:=id Z;refine LoadV.own ai rfl ?_;have ab:((List.range n).map (bRow m k)).length=n:=by simp
 have O:j=n->I ((List.range n).map (bRow m k)).length w1:=λe=>by rw[ab,<-e];exact U
 (conv=>whnf);refine zC (λ_=>zu ?_) (λ_=>zu ?_)
 ·refine LoadV.of ah (zw ?_);refine zt ?_;refine zC (λ_=>zw ?_) (λ_=>zw ?_)
  ·refine LoadV.of aa (zw ?_);have aj:decide (((k:Int)*16+(j:Int))%16=0)=decide (j=0):=decide_eq_decide.2 Oo;refine Obl.mk ⟨by omega,by omega⟩ (zw ?_);rw[aj];refine zcv (qnq b m (bSt (qc m) (qz m k) j).2 (decide (j=0)) ⟨(bSt (qc m) (qz m k) j).1.toArray⟩ w1 Z Oo (by show(bSt (qc m) (qz m k) j).1.length<=_;omega)) ?_;rintro v w2 ⟨rfl,ac⟩;have ak:qev (qc m) (bSt (qc m) (qz m k) j).2 (decide (j=0)) (⟨(bSt (qc m) (qz m k) j).1.toArray⟩:De).data.toList=blk (qc m) (qz m k) j:=hb.symm;rw[ak];obtain⟨x,ex⟩:∃x,x=blk (qc m) (qz m k) j:=⟨_,rfl⟩
   have ad:=W.ok j;have al:=W.stop;rw[<-ex]at ad|-;conv=>whnf
   by_cases ae:x.2.2=0
   ·have H:j<n:=by
     refine Cz λhc=>?_;obtain rfl:j=n:=by omega
     exact al Oo Oo (by rw[<-ex];exact ae)
    refine zv ?_;refine YieldV.mono (hy j [ii ((k:Int)*16+j),.string ⟨x.1.toArray⟩] w2 ?_ (sI _ _ _ U ac)) ?_
    ·rw[Ar,B6 H,AU,bRow,<-ex]
     congr 3
     omega
    rintro v w3 (⟨rfl,am⟩|⟨rfl,hX⟩)
    ·refine zu ?_;refine⟨rfl,j+1,⟨rfl,rfl,rfl,?_,?_,?_,trivial⟩,⟨by omega,am⟩,by omega⟩
     ·simp only[bSt,<-ex];rfl
     ·simp only[bSt,<-ex];rfl
     ·show ii _=ii _
      congr 1
    ·refine zu ?_;exact .inr ⟨j,by rw[ab];exact H,hX⟩
   ·have H:j=n:=by
     refine Cz λhc=>?_;exact ae (ad Oo).2
    refine zv ?_;exact .inl (sI _ _ _ (O H) ac)
  ·have H:j=n:=by omega
   exact .inl (O H)
 ·have H:j=n:=by
   refine Cz λhc=>?_;have:=(W.ok j Oo).1;omega
  exact .inl (O H)
theorem qwr(b k:Nat)(w:Dd):Gv Dp 324 [pp b,ii k] w λr w'=>
  (∃b1 b2,r=.func (.func 370) #[] #[pp b1,pp b2]/\w'.cell? ⟨b1,0,none⟩=some (pp b)/\w'.cell? ⟨b2,0,none⟩=some (ii k))/\Ext w w':=by
 refine ze Tryz.func324 Tryz.ntmps324 ?_;refine znm (Mem.nil w) λb1 O H=>zw ?_;refine znm H λb2 U H=>zw ?_;refine⟨⟨b1,b2,rfl,?_,?_⟩,H.ext⟩
 ·rw[qa (H.get (zmc mh))];rfl
 ·rw[qa (H.get mh)];rfl
def qgp(m:LB)(i:Nat):Di:=
 match dGet m i with
 | some s=>.tuple #[.string ⟨s.toArray⟩,.bool true]
 | none=>.tuple #[.string ⟨#[]⟩,.bool false]
theorem qr9(b:Nat)(m:LB)(i:Nat)(w:Dd)(h:DictAt w b m)(hi:i<=16777216):
  Gv Dp 249 [pp b,ii i] w λr w'=>r=qgp m i/\Ext w w':=by
 refine gvW Jk Tryz.func249 rfl Tryz.ntmps249 rfl (zw ?_);refine znm (Mem.nil w) λbi w1 H=>zw ?_;refine znm H λbs w2 H=>zw ?_;refine znm H λbb w3 H=>zw ?_;refine DrawW.of ?_;obtain⟨⟨P,cp,E,ce,ab,_,_,_⟩,_⟩:=h.ext H.ext;refine zy ?_;refine LoadV.mem (H.drew) (i:=2) rfl rfl (zu ?_);refine LoadV.mem (H.drew) (i:=2) rfl rfl (zu ?_);refine LoadV.own ab rfl (zw ?_);refine zt ?_;refine zC (λ_=>zw ?_) (λ_=>zw ?_)
 ·have W:qgp m i=.tuple #[.string ⟨#[]⟩,.bool false]:=by rw[qgp,dGet,Ab Oo]
  rw[W];refine StoreV.mem H.drew (i:=1) rfl Js rfl λw4 H=>zw ?_;refine StoreV.mem H (i:=0) rfl Js rfl λw5 H=>zw ?_;refine qk (R:=λv w'=>v=.tuple #[.string ⟨#[]⟩,.bool false]/\Ext w w') (zw ?_);refine zr H 1 ?_;refine zr H 0 ?_;exact⟨rfl,H.ext⟩
 have H:=H.drew;refine zr H 2 ?_;refine zv ?_;refine zcv (qwr b (i/16) w3.drew) ?_;rintro v w4 ⟨⟨b1,b2,rfl,ac,ad⟩,ae⟩;have H:=H.call ae;have af:=h.ext H.ext;(conv=>whnf);obtain⟨n,hn⟩:=BEnd.ex m (i/16);have ak:=hn.le;have ag:i/16<upN (dN m) 16:=by unfold upN;omega
 have O:((List.range n).map (bRow m (i/16))).length=n:=by simp
 refine qtc (Φ:=BlkΦ b m (i/16) b1 b2) (lb:=[pp b1,pp b2]) (xs:=(List.range n).map (bRow m (i/16))) rfl Jk (qnd b m (i/16) n b1 b2 ag hn).toC Od ?_
  (λk X w'=>∃_:Unit,k<=i%16/\Mem w4 w' (X++[]))
  (λc k X w'=>∃_:Unit,(c=.ret/\k=i%16)/\Mem w w' (X++[(bb,.cells #[.bool true] 4),(bs,.cells #[.string ⟨(blk (qc m) (qz m (i/16)) (i%16)).1.toArray⟩] 9),(bi,.cells #[ii i] 3)]))
  (λk=>Carr.mem _ _) (λc k=>Carr.mem _ _) (λk X w' ⟨_,_,H⟩=>⟨af.ext H.ext,H.ext.cell ac,H.ext.cell ad⟩) ⟨(),An _,by simpa using Mem.nil w4⟩ ?_ ?_ ?_
 ·intro x Z;obtain⟨j,_,rfl⟩:=AG.1 Z;rfl
 ·rintro l D ob k x X w5 w6 Z ⟨_,hk,U⟩;have ah:k<n:=by
   have:=(Ad.1 Z).1
   rwa[O]at this
  rw[Ar,B6 ah,AU,AN]at Z;subst Z;have H:=H.glue2 U;(conv=>whnf);refine⟨rfl,rfl,?_⟩;(conv=>whnf);refine zr H 2 ?_;refine zC (λ_=>zw ?_) (λ_=>zw ?_)
  ·obtain rfl:k=i%16:=by omega
   refine StoreV.mem H (i:=1) rfl Js rfl λw7 H=>zw ?_;refine StoreV.mem H (i:=0) rfl Js rfl ?_;intro w8 H;rw[By]at H;(conv=>whnf);exact⟨(),⟨rfl,rfl⟩,H.perm As⟩
  ·exact⟨(),by omega,U⟩
 ·rintro D w5 ⟨_,hk,U⟩;rw[O]at hk;have H:=H.glue U;have W:qgp m i=.tuple #[.string ⟨#[]⟩,.bool false]:=by
   have ai:=hn.stop;have aj:(blk (qc m) (qz m (i/16)) (i%16)).2.2≠0:=by
    have h1:=ai Oo Oo;rw[q2c h1 (i:=i%16) Oo];exact h1
   rw[qgp,dGet,Af Oo,Ab aj]
  rw[W];(conv=>whnf);refine StoreV.mem H (i:=2) rfl Js rfl λw6 H=>zw ?_;refine StoreV.mem H (i:=1) rfl Js rfl λw7 H=>zw ?_;refine LeaveV.mark (H.get mh) λw8 hw=>?_;have H:=H.setO (i:=0) _ rfl hw;(conv=>whnf);refine qk (R:=λv w'=>v=.tuple #[.string ⟨#[]⟩,.bool false]/\Ext w w') (zw ?_);refine zr H 2 ?_;refine zr H 1 ?_;exact⟨rfl,H.ext⟩
 ·rintro D c k w5 aa ⟨_,⟨rfl,rfl⟩,H⟩;rw[O]at aa;have W:qgp m i=.tuple #[.string ⟨(blk (qc m) (qz m (i/16)) (i%16)).1.toArray⟩,.bool true]:=by
   rw[qgp,dGet,Af Oo,Af (hn.ok _ aa).2]
  rw[W];(conv=>whnf);refine LeaveV.mark (H.get mh) λw8 hw=>?_;have H:=H.setO (i:=0) _ rfl hw;(conv=>whnf);refine qk (R:=λv w'=>v=.tuple #[.string ⟨(blk (qc m) (qz m (i/16)) (i%16)).1.toArray⟩,.bool true]/\Ext w w') (zw ?_);refine zr H 2 ?_;refine zr H 1 ?_;exact⟨rfl,H.ext⟩
theorem qzi(h:(numE l k most).2=0):vNum l k<=most:=by
 grind [numE]
theorem q8n(h:(numE l k most).2=0):(numL (l.drop (vAt l k))).2.2=0:=by grind [numE]
theorem qaad:Dp.underlying 169=some (.slice 164):=Tryz.underlying169
theorem u64I:Dp.info? 164=some ((Dp.info? 164).get Jk):=(BA _).symm
theorem u64Z:((Dp.info? 164).get Jk).zero=some (.int .u64 0):=by kernel_rfl
theorem q9r(h:(sE l).2=0):(∀k,k<3->(vsF l k).2=0)/\q9 l 3=l.length:=by
 have H:(errF (vsF l) 3).2=0:=by grind [sE]
 exact⟨qb8 H,by grind [sE]⟩
theorem qac9:Dp.underlying 93=some (.slice 95):=Tryz.underlying93
theorem idsI:Dp.info? 95=some ((Dp.info? 95).get Jk):=(BA _).symm
theorem idsZ:((Dp.info? 95).get Jk).zero=some ((((Dp.info? 95).get Jk).zero).get Jk):=(BA _).symm
structure Al(w0:Dd)(L:Dm)(o1 o1' o2 o2':Obj)(s1 s2 t1 t2:Bool)(v1 v2:Di)(w:Dd):Prop where
 h:∃b1 b2:Nat,(s1=true->v1=pp b1)/\(s2=true->v2=pp b2)/\(s1=false->t1=false)/\(s2=false->t2=false)/\
  Mem w0 w ((bif s1 then[(b1,bif t1 then o1' else o1)]else[])++((bif s2 then[(b2,bif t2 then o2' else o2)]else[])++L))
section
variable {w0 w w':Dd} {L:Dm} {o1 o1' o2 o2':Obj} {s1 s2 t1 t2:Bool} {v1 v2:Di}
theorem Al.start(h:Mem w0 w L):Al w0 L o1 o1' o2 o2' false false false false v1 v2 w:=⟨0,0,Js,Js,λ_=>rfl,λ_=>rfl,h⟩
theorem Al.call(h:Al w0 L o1 o1' o2 o2' s1 s2 t1 t2 v1 v2 w)(H:Ext w w'):Al w0 L o1 o1' o2 o2' s1 s2 t1 t2 v1 v2 w':=by
 obtain⟨b1,b2,O,U,W,Z,h5⟩:=h;exact⟨b1,b2,O,U,W,Z,h5.call H⟩
theorem Al.mem(h:Al w0 L o1 o1' o2 o2' s1 s2 t1 t2 v1 v2 w):Mem w0 w L:=by
 obtain⟨b1,b2,O,U,W,Z,H⟩:=h;exact H.sub Js
theorem Al.new1(h:Al w0 L o1 o1' o2 o2' false s2 t1 t2 v1 v2 w):Al w0 L o1 o1' o2 o2' true s2 t1 t2 (.pointer (some ⟨w.heap.size,0,none⟩)) v2 (w.alloc o1):=by
 obtain⟨b1,b2,Z,H,O,U,W⟩:=h;refine⟨w.heap.size,b2,λ_=>rfl,H,Js,U,?_⟩;rw[O rfl];exact W.new rfl rfl
theorem Al.put1(h:Al w0 L o1 o1' o2 o2' true s2 false t2 v1 v2 w):∃b,v1=pp b/\∃M,Mem w0 w ((b,o1)::M)/\∀{w' H},Mem w0 w' ((b,o1')::M)->H=pp b->Al w0 L o1 o1' o2 o2' true s2 true t2 H v2 w':=by
 obtain⟨b1,b2,O,U,h3,W,Z⟩:=h;exact⟨b1,O rfl,_,Z,λhm hu=>⟨b1,b2,λ_=>hu,U,Js,W,hm⟩⟩
theorem Al.done1(h:Al w0 L o1 o1' o2 o2' true false true t2 v1 v2 w):∃b1,v1=pp b1/\Mem w0 w ((b1,o1')::L):=by
 grind [h]
end
theorem LoadV.fim{n:Nat}{F:Nat->Int}{t:Dg}{x:Int}{K:Di->Prop}(h:Mem w0 w L)(H:(b,Obj.cells (fnA n (inF F)) t)∈L)(j:Nat)(e:off=j)(O:j<n)(hv:F j=x)(U:K (ii x)):LoadV w b off K:=by
 obtain⟨i,H⟩:=List.getElem?_of_mem H;exact LoadV.fi h H j e O hv U
theorem qacg(h:(sE l).2=0):(∀k,k<3->vNum l k<=67108864)/\q9 l 3=l.length:=by
 unfold sE at h
 split at h
 ·omega
 rename_i O
 split at h
 ·cases h
 rename_i U
 split at h
 ·cases h
 rename_i W
 exact⟨λk H=>qzi (qb8 (f:=vsF l) (n:=3) Oo k H),by omega⟩
theorem qon(h:q9 l 3=l.length)(H:k<3):q9 l k+vNum l k<=l.length:=by
 grind [q9]
theorem q0h(h:q9 l 3=l.length)(H:k<3):(sDict l k).length=vNum l k:=by
 have:=qon h H
 grind [sDict]
open Go.RowKit
namespace V
theorem StoreA.row{t:Dg}{K:Dl}(h:Mem w0 w L)(Z:L[i]?=some (b,.cells cur t))(hl:off+vs.length<=cur.size)(h1:∀v∈vs,v.oneCell'=true)(H:∀w',(∀c,c≠b->w'.heap[c]?=w.heap[c]?)->w.heap.size<=w'.heap.size->Mem w0 w' (L.set i (b,.cells (cur.toList.take off++vs++cur.toList.drop (off+vs.length)).toArray t))->K w'):StoreA P w b off vs K:=by
 have O:(b,Obj.cells cur t)∈L:=(by grind)
 have U:=h.get O;have W:=run_storeCells_at P b off t vs 0 cur w U (by simpa using hl) h1;simp only[Bq]at W;refine⟨_,W,H _ (λc hc=>qq hc) Js ?_⟩;refine h.set Z ?_ (qb2 U) (λc hc=>qq hc);exact Below.trans h.ext ⟨rfl,rfl,rfl,by simp,λk H=>qq (by have:=(h.own _ O).1;omega)⟩
section
variable {w0 w w':Dd} {L L':Dm} {o:Obj} {m1 m2 m3:Dk} {c1 c2 c3:Bool} {v1 v2 v3:Di}
end
theorem StoreV.row{t:Dg}{v:Di}{K:Dl}(h:Mem w0 w L)(H:L[i]?=some (b,.cells cs t))(O:off<cs.size)(U:qb5 v=true)(W:∀w',(∀c,c≠b->w'.heap[c]?=w.heap[c]?)->w.heap.size<=w'.heap.size->Mem w0 w' (L.set i (b,.cells (cs.setIfInBounds off v) t))->K w'):StoreV w b off v K:=
 StoreV.own (h.get (zmg H)) O U λw' Z=>W w' (by grind [Below.heap_setCell]) (by simp_all) (h.setCell H Z)
theorem CellsAt.other{x:Nat}(h:CellsAt w b off vs)(H:b≠x)(O:∀c,c≠x->w'.heap[c]?=w.heap[c]?):CellsAt w' b off vs:=by
 intro k v hv;have:=h k v hv
 grind [World.cell?]
theorem SlAt.other{α:Type}{H:α->Dn}{O:Nat}{l:List α}{x:Nat}{t:Dg}(h:SlAt H O w A l)(hx:w.heap[x]?=some (.cells cs t fz))(W:∀y∈l,∀v∈cs.toList,(H y)[0]?≠some v)(Z:∀y∈l,H y≠[])(hw:∀c,c≠x->w'.heap[c]?=w.heap[c]?):SlAt H O w' A l:=by
 refine⟨λhn=>?_⟩;obtain⟨b,off,h1,h2⟩:=h.at_ hn;refine⟨b,off,h1,λj y hy=>(h2 j y hy).other ?_ hw⟩;intro aa;subst aa;have U:y∈l:=zmg hy;obtain⟨v,hv⟩:∃v,(H y)[0]?=some v:=by
  cases he:H y with
  | nil=>exact absurd he (Z y U)
  | cons v r=>exact⟨v,rfl⟩
 have h3:=h2 j y hy 0 v hv;rw[qa hx]at h3;exact W y U v (Array.mem_toList_iff.2 (CJ h3)) hv
end V
def ErrTyp(w:Dd):Prop:=w.cell? ⟨0,0,none⟩=some (.iface 314 (.agg #[.pointer (some ⟨7,38,none⟩)]))
theorem ErrTyp.ext(h:ErrTyp w)(H:Ext w w'):ErrTyp w':=H.cell h
theorem qna(t:Di)(w:Dd):Gv Dp 52 [.nilIface,t] w λr w'=>r=.bool false/\w'=w:=
 qey Jk ((qaa1 t w).mono λe w' ⟨H,O⟩=>⟨_,H,rfl,O⟩)
def vF(d:Nat->Nat)(l:LB)(k:Nat):Nat->Di:=λj=>
 if j=6 then ii (vTot l k:Nat)else if j/2<k then(if j%2=0 then .pointer (some ⟨d (j/2),0,none⟩)else ii (vTot l (j/2)+1:Nat))else(if j%2=0 then .pointer none else ii 0)
structure VocAt(w:Dd)(b:Nat)(l:LB):Prop where
 h:∃d,w.heap[b]?=some (.cells (fnA 7 (vF d l 3)) 305)/\∀k,k<3->DictAt w (d k) (sDict l k)
theorem VocAt.ext(h:VocAt w b l)(H:Ext w w'):VocAt w' b l:=by
 obtain⟨d,O,U⟩:=h;exact⟨d,H.get O,λk W=>(U k W).ext H⟩
theorem qsi(n:Nat)(F:Dk)(j:Nat)(h:j<n):(fnA n F).toList[j]?=some (F j):=by
 have:=qa9 n F j h
 simpa using this
theorem q24(n:Nat)(F:Dk)(i:Nat)(a b:Di)(h:i+2<=n):((fnA n F).toList.take i++[a,b]++(fnA n F).toList.drop (i+[a,b].length)).toArray=fnA n (updF (updF F i a) (i+1) b):=by
 rw[<-qdy,<-qdy,<-Bs];simp only[BQ,AH,C4];have H:(fnA n F).toList.length=n:=by simp[qba]
 generalize(fnA n F).toList=Z at H;apply Bk;intro j;rw[BP,BP,Au,List.getElem?_append];simp only[A4,C6,H]
 by_cases O:j<i
 ·rw[Af Oo,Ab Oo,Ab Oo,Bn,Af O]
 ·rw[Ab Oo,List.getElem?_append];simp only[AH,C4]
  by_cases U:j=i
  ·subst U;rw[Af Oo,Ab Oo,Af rfl,Af Oo,show j-min j n=0 by omega];rfl
  ·by_cases W:j=i+1
   ·subst W;rw[Af Oo,Af rfl,Af Oo,show i+1-min i n=1 by omega];rfl
   ·rw[Ab Oo,Ab Oo,Ab Oo,Cc]
    congr 1
    omega
theorem DictAt.other{x:Nat}{m:LB}{t:Dg}(h:DictAt w b m)(U:w.heap[x]?=some (.cells cs t fz))(ht:t≠395)(hc:∀v∈cs.toList,∀c:Nat,v≠.int .u8 c)(W:∀c,c≠x->w'.heap[c]?=w.heap[c]?):DictAt w' b m:=by
 obtain⟨⟨P,cp,E,ce,H,h2,h3,h4⟩,h5,h6,h7,h8⟩:=h;have Z:b≠x:=by
  intro e;subst e;rw[U]at H
  injection H with H
  injection H with _ H _
  exact ht H
 have O:∀(z:LB),∀y∈z,∀v∈cs.toList,(encB y)[0]?≠some v:=λz y _ v hv e=>by
  cases e;exact hc _ hv _ rfl
 exact⟨⟨P,cp,E,ce,by rw[W b Z];exact H,h2.other U (O _) (λ_ _ e=>by cases e) W,h3.other U (O _) (λ_ _ e=>by cases e) W,h4⟩,h5,h6,h7,h8⟩
theorem q6x(d:Nat->Nat)(l:LB)(k j:Nat):∀c:Nat,vF d l k j≠.int .u8 c:=by
 intro c;unfold vF
 split
 ·intro e;cases e
 ·split
  ·split<;>(intro e;cases e)
  ·split<;>(intro e;cases e)
theorem qaaj(d:Nat->Nat)(l:LB)(k b:Nat)(H:k<3):fnA 7 (updF (updF (updF (vF d l k) (2*k) (pp b)) (2*k+1) (ii (vTot l k+1:Nat))) 6 (ii (vTot l (k+1):Nat))) =
  fnA 7 (vF (λj=>if j=k then b else d j) l (k+1)):=qdx λj O=>by
 rcases(show k=0\/k=1\/k=2 by omega)with rfl|rfl|rfl<;>
 rcases(show j=0\/j=1\/j=2\/j=3\/j=4\/j=5\/j=6 by omega)with rfl|rfl|rfl|rfl|rfl|rfl|rfl<;>rfl
theorem q25(l:LB)(A:oA)(c:Nat)(w:Dd)(hS:SlAt encB 1 w A l)(hc:l.length<=c)(hl:l.length<=70368744177664)(hE:(sE l).2=0)(f:FuncId)(hf:∀k,k<3->∀w' B c',Ext w w'->SlAt encB 1 w' B (sDict l k)->(sDict l k).length<=c'->Gv Dp f [.slice B (sDict l k).length c'] w' λv aq=>(∃b,v=.tuple #[pp b,.nilIface]/\DictAt aq b (sDict l k))/\Ext w' aq):
  Gv Dp 163 [.slice A l.length c,.func (.func f) #[] #[]] w λv w'=>(∃b G,v=.tuple #[pp b,.agg (fnA 3 (inF G)),.nilIface]/\(∀k,k<3->G k=((q9 l k:Nat):Int))/\VocAt w' b l)/\Ext w w':=by
 have ar:=(q9r hE).1;obtain⟨ae,an⟩:=qacg hE;refine ze Tryz.func163 Tryz.ntmps163 ?_;refine znm (Mem.nil w) λr5 w1 H=>zw ?_;refine zcv (qdk _ l w1 ⟨A,c,rfl,hc,hS.ext H.ext⟩) ?_;rintro v w2 ⟨cb,rfl,au,av,aw⟩;have H:=H.fresh aw au av;(conv=>whnf);refine znm H λsz w3 H=>zw ?_;refine znm H ?_;intro W w4 H;have H:Mem w w4 [(W,.cells (fnA 3 (inF (λ_:Nat=>(0:Int)))) 113),(sz,.cells (fnA 3 (inF (λ_:Nat=>(0:Int)))) 113),(cb,curO 367 (.slice A l.length c) (vAt l 0) 0),(r5,.cells (fnA 3 (inF (λ_:Nat=>(0:Int)))) 113)]:=H;(conv=>whnf);refine qn (λx:Nat×(Nat->Int)=>[(0,.slice A l.length c),(1,.func (.func f) #[] #[]),(4,.pointer none),(5,pp r5),(6,.nilIface),(7,pp cb),(8,pp sz),(9,pp W),(24,ii x.1)])
  (λx w'=>x.1<=3/\(∀j,j<x.1->x.2 j=((vNum l j:Nat):Int))/\Mem w w' [(W,.cells (fnA 3 (inF (λ_:Nat=>(0:Int)))) 113),(sz,.cells (fnA 3 (inF (x.2))) 113),(cb,curO 367 (.slice A l.length c) (vAt l x.1) 0),(r5,.cells (fnA 3 (inF (λ_:Nat=>(0:Int)))) 113)]) (λx=>3-x.1) (0,λ_:Nat=>(0:Int))
  fq ⟨by simp,λj h=>by simp at h,H⟩ ?_
 clear H av aw au;rintro⟨k,Q⟩ w6 a8 ⟨k1,hQ,H⟩;dsimp only at k1 hQ H|-;have a2:=qpb l k;have a9:=qq9 l k;(conv=>whnf);refine zC (λ_=>zw ?_) (λ_=>zw ?_)
 ·refine zcv (qiq cb (.slice A l.length c) (vAt l k) 0 w6 (H.get Js)) ?_;rintro r w7 ⟨rfl,rfl⟩;(conv=>whnf);refine zcv (qdb cb (.slice A l.length c) (vAt l k) 0 l _ (H.get Js) ⟨A,c,rfl,hc,hS.ext H.ext⟩ a2 Oo) ?_;rintro r w8 ⟨rfl,hu⟩;have he:=q8n (ar k Oo);have ba:=ae k Oo;rw[qm1 he,qm2 he]at hu;rw[qm0 he];have H:Mem w w8 [(W,.cells (fnA 3 (inF (λ_:Nat=>(0:Int)))) 113),(sz,.cells (fnA 3 (inF (Q))) 113),(cb,curO 367 (.slice A l.length c) (vAt l (k+1)) 0),(r5,.cells (fnA 3 (inF (λ_:Nat=>(0:Int)))) 113)]:=H.upd (i:=2) rfl hu;(conv=>whnf);refine zcv (qe7 cb (.slice A l.length c) (vAt l (k+1)) 0 w8 (H.get Js)) ?_;rintro r w9 ⟨rfl,rfl⟩;refine zu ?_;refine StoreV.fi (x:=((vNum l k:Nat):Int)) H (i:=1) rfl k (by rw[show tsz Dp 3=1 from by kernel_rfl];omega) Oo ?_;intro ag H;have H:Mem w ag [(W,.cells (fnA 3 (inF (λ_:Nat=>(0:Int)))) 113),(sz,.cells (fnA 3 (inF (updI Q k (vNum l k:Nat)))) 113),(cb,curO 367 (.slice A l.length c) (vAt l (k+1)) 0),(r5,.cells (fnA 3 (inF (λ_:Nat=>(0:Int)))) 113)]:=H;refine zu ?_;refine⟨(k+1,updI Q k (vNum l k:Nat)),fq,⟨by simp only;omega,λj Z=>?_,H⟩,by simp only;omega⟩
  ·simp only at Z|-
   by_cases e:j=k
   ·subst e;exact q1h _ _ _
   ·rw[q1i _ _ _ _ e];exact hQ j Oo
 obtain rfl:k=3:=by omega
 refine zcv (qiq cb (.slice A l.length c) (vAt l 3) 0 w6 (H.get Js)) ?_;rintro r w7 ⟨rfl,rfl⟩;(conv=>whnf);refine LoadA.mem H (i:=1) rfl (by simp[qba];rfl) (zw ?_);refine qn (λx:Nat×(Nat->Int)=>[(0,.slice A l.length c),(1,.func (.func f) #[] #[]),(4,.pointer none),(5,pp r5),(6,.nilIface),(8,pp sz),(9,pp W),(13,ii (q9 l x.1:Nat)),(53,.agg (fnA 3 (inF Q))),(54,ii x.1)])
  (λx w'=>x.1<=3/\(∀j,j<x.1->x.2 j=((q9 l j:Nat):Int))/\Mem w w' [(W,.cells (fnA 3 (inF (x.2))) 113),(sz,.cells (fnA 3 (inF (Q))) 113),(cb,curO 367 (.slice A l.length c) (vAt l 3) 0),(r5,.cells (fnA 3 (inF (λ_:Nat=>(0:Int)))) 113)]) (λx=>3-x.1) (0,λ_:Nat=>(0:Int))
  fq ⟨by simp,λj h=>by simp at h,H⟩ ?_
 clear H;rintro⟨k,P⟩ w8 bb ⟨k2,hP,H⟩;dsimp only at k2 hP H|-;have bc:q9 l (k+1)=q9 l k+vNum l k:=rfl;have a3:∀j,j<=3->q9 l j<=l.length+201326592:=by
  have e0:q9 l 0=vAt l 3:=rfl;have e1:q9 l 1=q9 l 0+vNum l 0:=rfl;have e2:q9 l 2=q9 l 1+vNum l 1:=rfl;have e3:q9 l 3=q9 l 2+vNum l 2:=rfl;have h0:=ae 0 Oo;have h1:=ae 1 Oo;have h2:=ae 2 Oo;have h3:=qpb l 3;intro j Z
  rcases(show j=0\/j=1\/j=2\/j=3 by omega)with rfl|rfl|rfl|rfl<;>omega
 have bd:=a3 k Oo;have be:3<=k->q9 l k=l.length:=λh=>by rw[show k=3 by omega,an]
 (conv=>whnf);refine zC (λ_=>zu ?_) (λ_=>zu ?_)
 ·have hn:=ae k Oo;refine⟨ii (vNum l k:Nat),?_,?_⟩
  ·rw[show k*tsz Dp 3=k from by rw[show tsz Dp 3=1 from by kernel_rfl];omega];have:=qsi 3 (inF Q) k Oo;rw[inF,hQ k Oo]at this;exact this
  (conv=>whnf);refine IdxV.at_ k Oo Oo (zw ?_);refine StoreV.fi (x:=((q9 l k:Nat):Int)) H (i:=0) rfl k (by rw[show tsz Dp 3=1 from by kernel_rfl];omega) Oo ?_;intro ag H;have H:Mem w ag [(W,.cells (fnA 3 (inF (updI P k (q9 l k:Nat)))) 113),(sz,.cells (fnA 3 (inF (Q))) 113),(cb,curO 367 (.slice A l.length c) (vAt l 3) 0),(r5,.cells (fnA 3 (inF (λ_:Nat=>(0:Int)))) 113)]:=H;refine zu ?_;refine⟨(k+1,updI P k (q9 l k:Nat)),⟨rfl,rfl,rfl,rfl,rfl,rfl,rfl,?_,rfl,rfl,trivial⟩,⟨by simp only;omega,λj Z=>?_,H⟩,by simp only;omega⟩
  ·show ii _=ii _
   congr 1
  ·simp only at Z|-
   by_cases e:j=k
   ·subst e;exact q1h _ _ _
   ·rw[q1i _ _ _ _ e];exact hP j Oo
 obtain rfl:k=3:=by omega
 refine znm H ?_;intro vb w9 H;have H:Mem w w9 [(vb,.cells (fnA 7 (vF (λ_=>0) l (0))) 305),(W,.cells (fnA 3 (inF (P))) 113),(sz,.cells (fnA 3 (inF (Q))) 113),(cb,curO 367 (.slice A l.length c) (vAt l 3) 0),(r5,.cells (fnA 3 (inF (λ_:Nat=>(0:Int)))) 113)]:=H;(conv=>whnf);refine LoadA.mem H (i:=2) rfl (by simp[qba];rfl) (zw ?_);refine qn (λx:Nat×(Nat->Nat)=>[(0,.slice A l.length c),(1,.func (.func f) #[] #[]),(4,.pointer none),(5,pp r5),(6,.nilIface),(9,pp W),(16,pp vb),(84,.agg (fnA 3 (inF Q))),(85,ii x.1)])
  (λx w'=>x.1<=3/\(∀j,j<x.1->DictAt w' (x.2 j) (sDict l j))/\Mem w w' [(vb,.cells (fnA 7 (vF (x.2) l (x.1))) 305),(W,.cells (fnA 3 (inF (P))) 113),(sz,.cells (fnA 3 (inF (Q))) 113),(cb,curO 367 (.slice A l.length c) (vAt l 3) 0),(r5,.cells (fnA 3 (inF (λ_:Nat=>(0:Int)))) 113)]) (λx=>3-x.1) (0,λ_=>0)
  fq ⟨by simp,λj h=>by simp at h,H⟩ ?_
 clear H;rintro⟨k,d⟩ ag bf ⟨k3,U,H⟩;dsimp only at k3 U H|-;(conv=>whnf);refine zC (λ_=>zu ?_) (λ_=>zu ?_)
 ·have hn:=ae k Oo;have aj:=hP k Oo;have am:=qon an (k:=k) Oo;have a4:=q0h an (k:=k) Oo;obtain⟨y,ey⟩:∃y,y=q9 l k:=⟨_,rfl⟩
  obtain⟨z,ez⟩:∃z,z=vNum l k:=⟨_,rfl⟩
  obtain⟨B,eB⟩:∃B,B=(if y+z=y then A else A.map (·.add (y*1))):=⟨_,rfl⟩
  have hB:SlAt encB 1 w B (sDict l k):=by
   rw[eB,sDict,<-ey];have:=hS.cut (lo:=y) (hi:=y+z) (m:=y+z) Oo Oo Oo rfl
   rwa[show y+z-y=vNum l k by omega]at this
  have ao:=λw' h1 h2=>hf k Oo w' B z h1 h2 Oo
  rw[a4]at ao;refine⟨ii (vNum l k:Nat),?_,?_⟩
  ·rw[show k*tsz Dp 3=k from by rw[show tsz Dp 3=1 from by kernel_rfl];omega];have:=qsi 3 (inF Q) k Oo;rw[inF,hQ k Oo]at this;exact this
  rw[<-ey]at aj am;rw[<-ez]at hn am ao|-;(conv=>whnf);refine DrawV.free Jk Jk (zw ?_);(iterate 4 (refine zd ?_));refine zsd (ii (y:Nat)) (λwd hd=>zw ?_) (zw ?_)
  ·refine LoadV.fim (x:=((y:Nat):Int)) (H.drew.call hd) (b:=W) (F:=P) (n:=3) (t:=113) Js k (by rw[show tsz Dp 3=1 from by kernel_rfl];omega) Oo aj (zw ?_);exact xq
  refine zd ?_;refine zd ?_;refine zsd (ii (y:Nat)) (λwd hd=>zw ?_) (zw ?_)
  ·refine LoadV.fim (x:=((y:Nat):Int)) (H.drew.call hd) (b:=W) (F:=P) (n:=3) (t:=113) Js k (by rw[show tsz Dp 3=1 from by kernel_rfl];omega) Oo aj (zw ?_);exact xq
  (iterate 4 (refine zd ?_));refine zsd (ii (y:Nat)) (λwd hd=>zw ?_) (zw ?_)
  ·refine LoadV.fim (x:=((y:Nat):Int)) (H.drew.call hd) (b:=W) (F:=P) (n:=3) (t:=113) Js k (by rw[show tsz Dp 3=1 from by kernel_rfl];omega) Oo aj (zw ?_);exact xq
  refine zd ?_;refine zd ?_;refine zsd (.slice B z z) (λwd hd=>zw ?_) (zw ?_)
  ·refine SliceV.to y (y+z) (y+z) rfl (by show(_:Int)=_;omega) (by show(_:Int)=_;omega) Oo znr Oo (λ_=>rfl) ?_;rw[show tsz Dp 5=1 from by kernel_rfl,<-eB,show y+z-y=z by omega];(conv=>whnf);exact xq
  apply StepD.of (λv wx=>∃b,v=.tuple #[pp b,.nilIface]/\DictAt wx b (sDict l k)) (λ_ _ _ ⟨b,h1,h2⟩ he=>⟨b,h1,h2.ext he⟩)
  ·intro wd hd;(conv=>whnf);refine zcv (ao wd (H.drew.call hd).ext (hB.ext (H.drew.call hd).ext)) ?_;rintro v ax ⟨⟨b,rfl,U⟩,ac⟩;exact⟨ac,b,rfl,U⟩
  (conv=>whnf);apply StepD.of (λv wx=>∃b,v=.tuple #[pp b,.nilIface]/\DictAt wx b (sDict l k)) (λ_ _ _ ⟨b,h1,h2⟩ he=>⟨b,h1,h2.ext he⟩)
  ·intro wd hd;(conv=>whnf);rintro v ⟨b,rfl,U⟩;(conv=>whnf);exact⟨xr,b,rfl,U⟩
  (conv=>whnf);apply StepD.of (λv wx=>∃b,v=pp b/\DictAt wx b (sDict l k)) (λ_ _ _ ⟨b,h1,h2⟩ he=>⟨b,h1,h2.ext he⟩)
  ·intro wd hd;(conv=>whnf);rintro v ⟨b,rfl,U⟩;(conv=>whnf);exact⟨xr,b,rfl,U⟩
  (conv=>whnf);apply zsd .nilIface
  ·intro wd hd;conv=>whnf
   repeat(rintro v ⟨b,rfl,U⟩;(conv=>whnf))
   exact xq
  (conv=>whnf);apply StepD.of (λv wx=>∃b,v=pp b/\DictAt wx b (sDict l k)) (λ_ _ _ ⟨b,h1,h2⟩ he=>⟨b,h1,h2.ext he⟩)
  ·intro wd hd;conv=>whnf
   repeat(rintro v ⟨b,rfl,U⟩;(conv=>whnf))
   exact⟨xr,_,rfl,by assumption⟩
  (conv=>whnf);apply zsd .nilIface
  ·intro wd hd;conv=>whnf
   repeat(rintro v ⟨b,rfl,U⟩;(conv=>whnf))
   exact xq
  (conv=>whnf);intro ax ac;have H:=H.drew.call ac;have U:=λj Z=>(U j Z).ext ((Ext.refl ag).drew.trans ac)
  clear ac;(conv=>whnf);rintro v ⟨b,rfl,aa⟩;conv=>whnf
  repeat(rintro v ⟨_,rfl,_⟩;(conv=>whnf))
  refine⟨λpb ak ay ah=>?_⟩;have ai:Ext ax ak:=by rw[ah];exact xr.alloc _
  have H:=H.new ay ah;have U:=λj Z=>(U j Z).ext ai
  have aa:=aa.ext ai;clear ai ah ay;(conv=>whnf);refine zcv (qna _ ak) ?_;rintro r bg ⟨rfl,rfl⟩;refine zu ?_;refine DrawV.inv (λS w'=>Mem w w' [(pb,.cells #[.pointer none] 123),(vb,.cells (bif S 12 then fnA 7 (updF (updF (vF d l k) (2*k) (pp b)) (2*k+1) (ii (vTot l k+1:Nat)))else fnA 7 (vF d l k)) 305),(W,.cells (fnA 3 (inF (P))) 113),(sz,.cells (fnA 3 (inF (Q))) 113),(cb,curO 367 (.slice A l.length c) (vAt l 3) 0),(r5,.cells (fnA 3 (inF (λ_:Nat=>(0:Int)))) 113)]/\(∀j,j<k->DictAt w' (d j) (sDict l j))/\DictAt w' b (sDict l k)) rfl Jk ⟨H.drew,λj Z=>(U j Z).ext xr.drew,aa.ext xr.drew⟩ ?_;have bh:=aa.n;have bi:vTot l k<=8388608:=by
   rcases(show k=0\/k=1\/k=2 by omega)with rfl|rfl|rfl
   ·exact An _
   ·have h0:=(U 0 Oo).n;simp only[vTot];omega
   ·have h0:=(U 0 Oo).n;have h1:=(U 1 Oo).n;simp only[vTot];omega
  clear H U aa;(conv=>whnf);(iterate 6 (refine zi ?_));refine StepI.of (ii (vTot l k:Nat)) (λS wd hk hp O=>zw ?_) (zw ?_)
  ·dsimp only at O;cases al:S 12
   ·rw[al]at O;refine LoadV.fn (v:=ii (vTot l k:Nat)) O.1 (i:=1) rfl 6 rfl Oo rfl (zw ?_);exact⟨rfl,by show Mem _ _ [_,(vb,.cells (bif S 12 then _ else _) _ _),_,_,_,_]/\_;rw[al];exact O⟩
   ·rw[al]at O;refine LoadV.fn (v:=ii (vTot l k:Nat)) O.1 (i:=1) rfl 6 rfl Oo (by rw[q7 _ _ _ _ Oo,q7 _ _ _ _ Oo];rfl) (zw ?_);exact⟨rfl,by show Mem _ _ [_,(vb,.cells (bif S 12 then _ else _) _ _),_,_,_,_]/\_;rw[al];exact O⟩
  (iterate 5 (refine zi ?_));refine StepI.of undef (λS wd hk hp O=>?_) (zw ?_)
  ·dsimp only at O;rw[hk]at O;(conv=>whnf);have hx:=O.1.get (zmc mh);refine StoreA.row O.1 (i:=1) rfl (by rw[show tsz Dp 302=2 from by kernel_rfl];simp[qba];omega) (by simp[Value.oneCell']) ?_;intro wx ad _ ab;have ab:Mem w wx [(pb,.cells #[.pointer none] 123),(vb,.cells (fnA 7 (updF (updF (vF d l k) (2*k) (pp b)) (2*k+1) (ii (vTot l k+1:Nat)))) 305),(W,.cells (fnA 3 (inF (P))) 113),(sz,.cells (fnA 3 (inF (Q))) 113),(cb,curO 367 (.slice A l.length c) (vAt l 3) 0),(r5,.cells (fnA 3 (inF (λ_:Nat=>(0:Int)))) 113)]:=by
    have e:=q24 7 (vF d l k) (2*k) (pp b) (ii (vTot l k+1:Nat)) Oo;rw[<-e];have e2:0+0+k*tsz Dp 302=2*k:=by rw[show tsz Dp 302=2 from by kernel_rfl];omega
    rw[<-e2];exact ab
   (conv=>whnf);refine⟨rfl,ab,λj Z=>(O.2.1 j Z).other hx Od ?_ ad,O.2.2.other hx Od ?_ ad⟩
   all_goals
    intro v hv c;obtain⟨m,az,rfl⟩:=AG.1 (show v∈(List.range 7).map (vF d l k)from hv);exact q6x d l k m c
  intro a5 O;obtain⟨H,U,aa⟩:=O;have H:Mem w a5 [(pb,.cells #[.pointer none] 123),(vb,.cells (fnA 7 (updF (updF (vF d l k) (2*k) (pp b)) (2*k+1) (ii (vTot l k+1:Nat)))) 305),(W,.cells (fnA 3 (inF (P))) 113),(sz,.cells (fnA 3 (inF (Q))) 113),(cb,curO 367 (.slice A l.length c) (vAt l 3) 0),(r5,.cells (fnA 3 (inF (λ_:Nat=>(0:Int)))) 113)]:=H;(conv=>whnf);refine DrawV.inv (λS w'=>((S 6=true->S 3=true)/\(S 9=true->S 3=true))/\Mem w w' [(pb,.cells #[.pointer none] 123),(vb,.cells (bif S 9 then fnA 7 (updF (updF (updF (vF d l k) (2*k) (pp b)) (2*k+1) (ii (vTot l k+1:Nat))) 6 (ii (vTot l (k+1):Nat)))else fnA 7 (updF (updF (vF d l k) (2*k) (pp b)) (2*k+1) (ii (vTot l k+1:Nat)))) 305),(W,.cells (fnA 3 (inF (P))) 113),(sz,.cells (fnA 3 (inF (Q))) 113),(cb,curO 367 (.slice A l.length c) (vAt l 3) 0),(r5,.cells (fnA 3 (inF (λ_:Nat=>(0:Int)))) 113)]/\(∀j,j<k->DictAt w' (d j) (sDict l j))/\DictAt w' b (sDict l k)) rfl Jk ⟨⟨λh=>(by cases h),λh=>(by cases h)⟩,H.drew,λj Z=>(U j Z).ext xr.drew,aa.ext xr.drew⟩ ?_;clear H U aa;have ar:vTot l (k+1)=vTot l k+dN (sDict l k):=rfl;(conv=>whnf);(iterate 3 (refine zi ?_));refine StepI.of (ii (vTot l k:Nat)) (λS wd hk hp O=>zw ?_) (zw ?_)
  ·have h9:S 9=false:=by
    cases h:S 9
    ·rfl
    ·have:=O.1.2 h;rw[hk]at this;cases this
   have af:=O.2.1;rw[h9]at af;refine LoadV.fn (v:=ii (vTot l k:Nat)) af (i:=1) rfl 6 rfl Oo (by rw[q7 _ _ _ _ Oo,q7 _ _ _ _ Oo];rfl) (zw ?_);exact⟨rfl,⟨λ_=>rfl,λ_=>rfl⟩,O.2⟩
  refine zi ?_;refine StepI.of (ii (dN (sDict l k):Nat)) (λS wd hk hp O=>zw ?_) (zw ?_)
  ·refine zcv (qlo b (sDict l k) wd O.2.2.2) ?_;rintro r a0 ⟨rfl,rfl⟩;exact⟨rfl,O⟩
  refine StepI.of (ii (vTot l (k+1):Nat)) (λS wd hk hp O=>zw ?_) (zw ?_)
  ·refine Obl.mk ⟨by omega,by omega⟩ (zw ?_);exact⟨rfl,⟨λ_=>hp 3 Od,O.1.2⟩,O.2⟩
  refine zi ?_;refine zi ?_;refine StepI.of undef (λS wd hk hp O=>?_) (zw ?_)
  ·have h6:=hp 6 Od;obtain⟨a1,af,a6,a7⟩:=O;rw[hk]at af;(conv=>whnf);have hx:=af.get (zmc mh);refine StoreV.row af (i:=1) rfl (by simp[qba]) rfl ?_;intro wx ad _ ab;have ab:Mem w wx [(pb,.cells #[.pointer none] 123),(vb,.cells (fnA 7 (updF (updF (updF (vF d l k) (2*k) (pp b)) (2*k+1) (ii (vTot l k+1:Nat))) 6 (ii (vTot l (k+1):Nat)))) 305),(W,.cells (fnA 3 (inF (P))) 113),(sz,.cells (fnA 3 (inF (Q))) 113),(cb,curO 367 (.slice A l.length c) (vAt l 3) 0),(r5,.cells (fnA 3 (inF (λ_:Nat=>(0:Int)))) 113)]:=by
    rw[<-qdy];exact ab
   (conv=>whnf);refine⟨rfl,⟨a1.1,λ_=>a1.1 h6⟩,ab,λj Z=>(a6 j Z).other hx Od ?_ ad,a7.other hx Od ?_ ad⟩
   all_goals
    intro v hv c;obtain⟨m,az,rfl⟩:=AG.1 (show v∈(List.range 7).map (updF (updF (vF d l k) (2*k) (pp b)) (2*k+1) (ii (vTot l k+1:Nat)))from hv);unfold updF
    split
    ·intro e;cases e
    split
    ·intro e;cases e
    exact q6x d l k m c
  intro a0 O;obtain⟨_,H,U,aa⟩:=O;have H:Mem w a0 [(pb,.cells #[.pointer none] 123),(vb,.cells (fnA 7 (updF (updF (updF (vF d l k) (2*k) (pp b)) (2*k+1) (ii (vTot l k+1:Nat))) 6 (ii (vTot l (k+1):Nat)))) 305),(W,.cells (fnA 3 (inF (P))) 113),(sz,.cells (fnA 3 (inF (Q))) 113),(cb,curO 367 (.slice A l.length c) (vAt l 3) 0),(r5,.cells (fnA 3 (inF (λ_:Nat=>(0:Int)))) 113)]:=H;rw[qaaj d l k b Oo]at H;have H:=H.sub (Br ..);refine zu ?_;refine⟨(k+1,λj=>if j=k then b else d j),fq,⟨by simp only;omega,λj Z=>?_,H⟩,by simp only;omega⟩;simp only at Z|-
  by_cases e:j=k
  ·subst e;rw[Af rfl];exact aa
  ·rw[Ab e];exact U j Oo
 obtain rfl:k=3:=by omega
 refine DrawV.inv (λS w'=>Mem w w' [(vb,.cells (fnA 7 (vF (d) l (3))) 305),(W,.cells (fnA 3 (inF (P))) 113),(sz,.cells (fnA 3 (inF (Q))) 113),(cb,curO 367 (.slice A l.length c) (vAt l 3) 0),(r5,.cells (bif S 3 then fnA 3 (inF P)else fnA 3 (inF λ_:Nat=>(0:Int))) 113)]/\∀j,j<3->DictAt w' (d j) (sDict l j)) rfl Jk ⟨H.drew,λj Z=>(U j Z).ext xr.drew⟩ ?_;clear H U;(conv=>whnf);refine zi ?_;refine StepI.of (.agg (fnA 3 (inF P))) (λS wd hk hp O=>zw ?_) (zw ?_)
 ·refine LoadA.mem O.1 (i:=1) rfl (by simp[qba];rfl) (zw ?_);exact⟨rfl,O⟩
 refine zi ?_;refine StepI.of undef (λS wd hk hp O=>?_) (zw ?_)
 ·dsimp only at O;rw[hk]at O;(conv=>whnf);have hx:wd.heap[r5]?=some (.cells (fnA 3 (inF λ_:Nat=>(0:Int))) 113):=O.1.get Js;refine StoreA.row O.1 (i:=4) rfl (by simp[qba]) (qxw 3 P) λwx ad _ ab=>zw ?_;refine⟨rfl,ab,λj Z=>(O.2 j Z).other hx Od ?_ ad⟩;intro v hv c;obtain⟨m,az,rfl⟩:=AG.1 (show v∈(List.range 3).map (inF λ_:Nat=>(0:Int))from hv);intro e;cases e
 refine zi ?_;intro ak O;obtain⟨H,U⟩:=O;have H:Mem w ak [(vb,.cells (fnA 7 (vF (d) l (3))) 305),(W,.cells (fnA 3 (inF (P))) 113),(sz,.cells (fnA 3 (inF (Q))) 113),(cb,curO 367 (.slice A l.length c) (vAt l 3) 0),(r5,.cells (fnA 3 (inF (P))) 113)]:=H;(conv=>whnf);refine qk (R:=λv w'=>(∃b G,v=.tuple #[pp b,.agg (fnA 3 (inF G)),.nilIface]/\(∀k,k<3->G k=((q9 l k:Nat):Int))/\VocAt w' b l)/\Ext w w') (zw ?_);refine LoadA.mem H (i:=4) rfl (by simp[qba];rfl) (zw ?_);exact⟨⟨vb,P,rfl,λk hk=>hP k hk,d,H.get mh,U⟩,H.ext⟩
theorem q4k(l:LB)(k:Nat):(sDict l k).length<=l.length:=by
 grind [sDict]
theorem wE_d(h:(wE l).2=0):(sE l).2=0/\∀k,k<3->(dE (sDict l k)).2=0:=by
 have H:(sE l).2=0:=by grind [wE]
 have O:(errF (sdF l) 3).2=0:=by grind [wE]
 exact⟨H,λk U=>by have:=qb8 O k U;grind [sdF]⟩
theorem qk7(l:LB)(A:oA)(c:Nat)(w:Dd)(Z:SlAt encB 1 w A l)(hc:l.length<=c)(hl:l.length<=70368744177664)(hE:(wE l).2=0):
  Gv Dp 95 [.slice A l.length c] w λv w'=>(∃b,v=.tuple #[pp b,.nilIface]/\VocAt w' b l)/\Ext w w':=by
 obtain⟨h0,hd⟩:=wE_d hE;have O:=q25 l A c w Z hc hl h0 164 λk hk w' B c' hx hB U=>(q2w (sDict l k) B c' w' hB U (by have:=q4k l k;omega) (hd k hk)).mono λv aa ⟨⟨b,h1,_,h2⟩,W⟩=>⟨⟨b,h1,h2⟩,W⟩
 refine ze Tryz.func95 Tryz.ntmps95 ?_;refine zcv (O) ?_;rintro v w1 ⟨⟨b,G,rfl,ab,hV⟩,W⟩;(conv=>whnf);refine znm (Mem.nil w1) λt5 w2 H=>zw ?_;refine StoreA.all H (i:=0) rfl (by rfl) (qxw 3 G) λw3 H=>zu ?_;exact⟨⟨b,rfl,VocAt.ext hV H.ext⟩,W.trans H.ext⟩
theorem VocAt.cell(h:VocAt w b l):∃d:Nat->Nat,(∀k,k<3->w.cell? ⟨b,2*k,none⟩=some (.pointer (some ⟨d k,0,none⟩))/\w.cell? ⟨b,2*k+1,none⟩=some (ii (vTot l k+1:Nat))/\DictAt w (d k) (sDict l k))/\
  w.cell? ⟨b,6,none⟩=some (ii (vTot l 3:Nat)):=by
 obtain⟨d,H,O⟩:=h;refine⟨d,λk U=>⟨?_,?_,O k U⟩,?_⟩
 ·rw[qa H,qa9 7 _ _ Oo,vF,Ab Oo,Af Oo,Af Oo,show 2*k/2=k by omega]
 ·rw[qa H,qa9 7 _ _ Oo,vF,Ab Oo,Af Oo,Ab Oo,show(2*k+1)/2=k by omega]
 ·rw[qa H,qa9 7 _ _ Oo,vF,Af rfl]
theorem VocAt.tot(h:VocAt w b l)(O:k<=3):vTot l k<=12582912:=by
 obtain⟨d,_,H⟩:=h;have U:=(H 0 Oo).n;have W:=(H 1 Oo).n;have Z:=(H 2 Oo).n
 rcases(show k=0\/k=1\/k=2\/k=3 by omega)with rfl|rfl|rfl|rfl<;>simp only[vTot]<;>omega
theorem q1s(b:Nat)(l:LB)(id:Nat)(w:Dd)(h:VocAt w b l)(hid:id<=16777216):
  Gv Dp 302 [pp b,ii id] w λr w'=>r=ii (if id=0\/vTot l 3<id then -1 else(qdt l id:Int))/\Ext w w':=by
 obtain⟨d,hd,H⟩:=h.cell;have O:=λk (U:k<=3)=>h.tot U
 refine ze Tryz.func302 Tryz.ntmps302 ?_;refine zC (λ_=>zu ?_) (λ_=>zu ?_)
 ·grind [Ext.refl]
 refine LoadV.of H (zw ?_);refine zt ?_;refine zC (λ_=>zw ?_) (λ_=>zw ?_)
 ·grind [Ext.refl]
 rw[Ab Oo];refine qn (λi:Nat=>[(0,pp b),(1,ii id),(5,ii i)])
  (λi w'=>i<=2/\(∀j,i<j->j<=2->id<=vTot l j)/\w'=w) (λi=>i) 2 fq (by grind) ?_
 rintro i w1 W ⟨i1,hj,rfl⟩;obtain⟨_,Z,_⟩:=hd i Oo;have aa:=O i Oo;refine zu ?_;refine LoadV.of (v:=ii (vTot l i+1:Nat)) ?_ ?_
 ·rw[<-Z]
  congr 2
  rw[show tsz Dp 302=2 from by kernel_rfl]
  grind
 (conv=>whnf);refine zC (λ_=>zu ?_) (λ_=>zu ?_)
 ·have ab:i≠0:=by
   grind [vTot]
  refine⟨i-1,⟨rfl,rfl,?_,trivial⟩,⟨by omega,λj h1 h2=>?_,rfl⟩,by omega⟩
  ·show ii _=ii _
   grind
  grind
 ·refine⟨Ae (Value.int .i64) ?_,xr⟩
  grind [qdt]
def qio(w:Dd):Prop:=CellsAt w 2 0 [ii 1,ii 2,ii 3]
noncomputable def qdo(l:LB)(id:Nat):Option TM:=
 if id=0 then some ⟨0,⟨#[]⟩,⟨#[]⟩,⟨#[]⟩⟩else if vTot l 3<id then none else
  match dGet (sDict l (qdt l id)) (id-(vTot l (qdt l id)+1))with
  | some s=>qf2 ((qdt l id+1:Nat):Int) s
  | none=>none
def qv6:Di:=.agg #[ii 0,.string ⟨#[]⟩,.string ⟨#[]⟩,.string ⟨#[]⟩]
noncomputable def qk5(l:LB)(id:Nat):Di:=
 match qdo l id with
 | some t=>.tuple #[qr t,.bool true]
 | none=>.tuple #[qv6,.bool false]
theorem q5d(H:id≠0)(h:id<=vTot l 3):qdt l id<3/\vTot l (qdt l id)<id/\id<=vTot l (qdt l id+1):=by
 grind [vTot,qdt]
theorem q1v(b:Nat)(l:LB)(id:Nat)(w:Dd)(h:VocAt w b l)(hid:id<=16777216)(hM:MaxLenAt w)(hT:CellsAt w 4 0 qa3)(hK:qio w):
  Gv Dp 225 [pp b,ii id] w λr w'=>r=qk5 l id/\Ext w w':=by
 refine ze Tryz.func225 Tryz.ntmps225 ?_;refine znm (Mem.nil w) λr4 w1 H=>zw ?_;refine zcv (q1s b l id w1 (h.ext H.ext) hid) ?_;rintro r w2 ⟨rfl,ab⟩;have H:=H.call ab;conv=>whnf
 by_cases h0:id=0\/vTot l 3<id
 ·rw[Af h0];refine zv ?_;refine zS H 0 λw3 H=>zw ?_;refine qk (R:=λv w'=>v=qk5 l id/\Ext w w') (zw ?_);refine zl H 0 ?_;refine⟨?_,H.ext⟩;rw[qk5,qdo]
  by_cases hi:id=0
  ·rw[Af hi];subst hi;rfl
  ·rw[Ab hi,Af Oo];show Value.tuple #[_,.bool (decide ((id:Int)=0))]=_;rw[AZ Oo];rfl
 ·rw[Ab h0];obtain⟨Z,ac,ad⟩:=q5d (l:=l) (id:=id) Oo Oo;have ae:qk5 l id=match dGet (sDict l (qdt l id)) (id-(vTot l (qdt l id)+1))with
   | some s=>(match qf2 ((qdt l id+1:Nat):Int) s with|some t=>.tuple #[qr t,.bool true]|none=>.tuple #[qv6,.bool false])
   | none=>.tuple #[qv6,.bool false]:=by
   grind [qk5,qdo]
  rw[ae];obtain⟨k,ek⟩:∃k,k=qdt l id:=⟨_,rfl⟩
  rw[<-ek]at Z ac ad|-;obtain⟨d,hd,hn⟩:=(h.ext H.ext).cell;obtain⟨af,ag,ah⟩:=hd k Z;have an:=(h.tot (k:=k) Oo)
  obtain⟨i,ei⟩:∃i,i=id-(vTot l k+1):=⟨_,rfl⟩
  rw[<-ei];refine zv ?_;have hG:∃s ok,qgp (sDict l k) i=.tuple #[.string s,.bool ok]/\s.size<=262144/\((ok=true/\dGet (sDict l k) i=some s.data.toList)\/(ok=false/\dGet (sDict l k) i=none)):=by
   unfold qgp;cases W:dGet (sDict l k) i with
   | none=>exact⟨_,_,rfl,by decide,Js⟩
   | some s=>exact⟨⟨s.toArray⟩,_,rfl,qr8 W,Js⟩
  obtain⟨s,ok,ao,ai,U⟩:=hG;refine DrawV.free Jk Jk (zw ?_);(iterate 6 (refine zd ?_));apply zsd (.pointer (some ⟨d k,0,none⟩))
  ·intro wd O;(conv=>whnf);refine LoadV.of (v:=.pointer (some ⟨d k,0,none⟩)) ?_ ?_
   ·have:=((Ext.refl w2).drew.trans O).cell af;rw[<-this]
    congr 2
    rw[show tsz Dp 302=2 from by kernel_rfl]
    grind
   (conv=>whnf);exact xq
  (conv=>whnf);(iterate 7 (refine zd ?_));apply zsd (ii (vTot l k+1:Nat))
  ·intro wd O;(conv=>whnf);refine LoadV.of (v:=ii (vTot l k+1:Nat)) ?_ ?_
   ·have:=((Ext.refl w2).drew.trans O).cell ag;rw[<-this]
    congr 2
    rw[show tsz Dp 302=2 from by kernel_rfl]
    grind
   (conv=>whnf);exact xq
  (conv=>whnf);apply zsd (ii (i:Nat))
  ·intro wd O;(conv=>whnf);refine Obl.mk ⟨by omega,by omega⟩ (zw ?_)
   grind [Ext.refl]
  (conv=>whnf);apply zsd (.tuple #[.string s,.bool ok])
  ·intro wd O;(conv=>whnf);refine zcv (qr9 (d k) (sDict l k) i wd (ah.ext ((Ext.refl w2).drew.trans O)) Oo) ?_
   simp_all
  (conv=>whnf);(iterate 5 (refine zd ?_));intro w3 aa;have H:=H.drew.call aa;clear aa;refine zu ?_;have aj:((k+1:Nat):Int)=1\/((k+1:Nat):Int)=2\/((k+1:Nat):Int)=3:=by omega
  refine LoadV.of (v:=ii (k+1:Nat)) ?_ ?_
  ·have aq:=λj v (hv:([ii 1,ii 2,ii 3]:Dn)[j]?=some v)=>(CellsAt.ext hK H.ext) j v hv
   rw[show tsz Dp 3=1 from by kernel_rfl]
   grind
  (conv=>whnf);obtain⟨t,e,ak,al⟩:∃t e,qe5 ((k+1:Nat):Int) s.data.toList=.tuple #[qr t,ii (e:Nat)]/\((e=0/\qf2 ((k+1:Nat):Int) s.data.toList=some t)\/(e≠0/\qf2 ((k+1:Nat):Int) s.data.toList=none)):=by
   unfold qe5;cases W:qf2 ((k+1:Nat):Int) s.data.toList with
   | none=>exact⟨⟨0,⟨#[]⟩,⟨#[]⟩,⟨#[]⟩⟩,170,rfl,Js⟩
   | some t=>grind
  refine zcv (q1u ((k+1:Nat):Int) aj s ai w3 (hM.ext H.ext) (hT.ext H.ext)) ?_;rintro r w4 ⟨rfl,am⟩;have H:=H.call am;rw[ak];(conv=>whnf);refine znm H λt9 w5 H=>zw ?_;refine zS H 0 λw6 H=>zw ?_
  rcases U with⟨rfl,W⟩|⟨rfl,W⟩
  ·rw[W];dsimp only
   rcases al with⟨rfl,hr⟩|⟨he,hr⟩
   ·rw[hr];refine zv ?_;refine zl H 0 ?_;refine zS H 1 λw7 H=>zw ?_;refine qk (R:=λv w'=>v=.tuple #[qr t,.bool true]/\Ext w w') (zw ?_);refine zl H 1 ?_;exact⟨rfl,H.ext⟩
   ·rw[hr];refine zv ?_;refine zS H 1 λw7 H=>zw ?_;refine qk (R:=λv w'=>v=.tuple #[qv6,.bool false]/\Ext w w') (zw ?_);refine zl H 1 ?_;exact⟨rfl,H.ext⟩
  ·rw[W];dsimp only;refine zv ?_;refine zS H 1 λw7 H=>zw ?_;refine qk (R:=λv w'=>v=.tuple #[qv6,.bool false]/\Ext w w') (zw ?_);refine zl H 1 ?_;exact⟨rfl,H.ext⟩
def zTM:TM:=⟨0,⟨#[]⟩,⟨#[]⟩,⟨#[]⟩⟩
noncomputable def uT(l:LB)(q:Nat->Nat)(j:Nat):TM:=(qdo l (q j)).getD zTM
noncomputable def q4Of(l:LB)(q:Nat->Nat):Q4:=⟨uT l q 1,uT l q 2,uT l q 3,uT l q 0⟩
def zQ:Q4:=⟨zTM,zTM,zTM,zTM⟩
def idsV(q:Nat->Nat):Di:=.agg #[ii (q 0:Nat),ii (q 1:Nat),ii (q 2:Nat),ii (q 3:Nat)]
open Classical in
noncomputable def qh1(l:LB)(q:Nat->Nat):Di:=
 if ∀j,j<4->qdo l (q j)≠none then .tuple #[qw (q4Of l q),.bool true]else .tuple #[qw zQ,.bool false]
noncomputable def aT(l:LB)(q:Nat->Nat)(k j:Nat):TM:=if j<k then uT l q j else zTM
noncomputable def arrT(l:LB)(q:Nat->Nat)(k:Nat):Q4:=⟨aT l q k 0,aT l q k 1,aT l q k 2,aT l q k 3⟩
theorem q14(l:LB)(q:Nat->Nat)(k:Nat)(H:k<4):((qe (arrT l q k)).take (k*4)++encT (uT l q k)++(qe (arrT l q k)).drop (k*4+4))=qe (arrT l q (k+1)):=by
 rcases(show k=0\/k=1\/k=2\/k=3 by omega)with rfl|rfl|rfl|rfl<;>rfl
theorem q1t(b:Nat)(l:LB)(q:Nat->Nat)(w:Dd)(h:VocAt w b l)(hq:∀j,j<4->q j<=16777216)(hM:MaxLenAt w)(hT:CellsAt w 4 0 qa3)(hK:qio w):
  Gv Dp 145 [pp b,idsV q] w λr w'=>r=qh1 l q/\Ext w w':=by
 unfold idsV;refine ze Tryz.func145 Tryz.ntmps145 ?_;refine znm (Mem.nil w) ?_;intro t3 w1 H;refine znm H ?_;intro Z w2 H;refine znm H ?_;intro U w3 H;refine zl H 2 ?_;obtain⟨W,O⟩:∃W,W=(t3,Obj.cells #[ii (q 0:Nat),ii (q 1:Nat),ii (q 2:Nat),ii (q 3:Nat)] 95):=⟨_,rfl⟩
 have H:Mem w w3 [(U,.cells (qe (arrT l q 0)).toArray 166),(Z,.cells (qe zQ).toArray 47),W]:=by rw[O];exact H
 clear O;refine qn (λk:Nat=>[(0,pp b),(4,pp Z),(5,.bool false),(6,pp U),(11,.agg #[ii (q 0:Nat),ii (q 1:Nat),ii (q 2:Nat),ii (q 3:Nat)]),(12,ii k)])
  (λk w'=>k<=4/\(∀j,j<k->qdo l (q j)≠none)/\Mem w w' [(U,.cells (qe (arrT l q k)).toArray 166),(Z,.cells (qe zQ).toArray 47),W]) (λk=>4-k) 0
  fq ⟨by omega,λj h=>by omega,H⟩ ?_
 clear H;rintro k w4 ad ⟨k1,hj,H⟩;conv=>whnf
 (repeat'(first|refine zp ?_|refine zC (λ_=>zw ?_) (λ_=>zw ?_)|(refine zJ 0 ?_;(conv=>whnf))))
 ·have aa:=hq k Oo;refine⟨ii (q k:Nat),?_,?_⟩
  ·rw[show k*tsz Dp 3=k from by rw[show tsz Dp 3=1 from by kernel_rfl];omega]
   rcases(show k=0\/k=1\/k=2\/k=3 by omega)with rfl|rfl|rfl|rfl<;>rfl
  (conv=>whnf);refine zcv (q1v b l (q k) w4 (h.ext H.ext) aa (hM.ext H.ext) (hT.ext H.ext) (CellsAt.ext hK H.ext)) ?_;rintro r w5 ⟨rfl,ab⟩;have H:=H.call ab;unfold qk5;cases hv:qdo l (q k)with
  | none=>
   dsimp only;have hV:qh1 l q=.tuple #[qw zQ,.bool false]:=by rw[qh1,Ab (λh=>h k Oo hv)]
   rw[hV];unfold qv6;refine znm H ?_;intro t9 w6 H;refine zS H 0 λw7 H=>zu ?_;refine zS H 2 ?_;intro w8 H;refine qk (R:=λv w'=>v=.tuple #[qw zQ,.bool false]/\Ext w w') ?_;refine zl H 2 ?_;exact⟨rfl,H.ext⟩
  | some t=>
   dsimp only;have ac:uT l q k=t:=by rw[uT,hv];rfl
   refine znm H ?_;intro t9 w6 H;refine zS H 0 λw7 H=>zu ?_;refine zl H 0 ?_;refine zv ?_;refine StoreA.mem H (i:=1) rfl ?_ (by simp[Value.oneCell']) ?_
   ·rw[show tsz Dp 45=4 from by kernel_rfl];show 0+k*4+4<=16;omega
   intro w8 H;refine zu ?_;refine⟨k+1,fq,⟨by omega,λj ae=>?_,?_⟩,by omega⟩
   ·by_cases e:j=k
    ·subst e;rw[hv];simp
    ·exact hj j Oo
   ·have H:=H.sub (Br ..);have e:=q14 l q k Oo;rw[ac]at e;rw[<-e];rw[show tsz Dp 45=4 from by kernel_rfl,Aq]at H;exact H
 obtain rfl:k=4:=by omega
 have hV:qh1 l q=.tuple #[qw (q4Of l q),.bool true]:=by rw[qh1,Af hj]
 rw[hV];have hc:CellsAt w4 U 0 (qe (arrT l q 4)):=CellsAt.mem H mh;refine LoadA.cells (qu hc 0 Oo) rfl (zw ?_);refine zJ 1 ?_;(conv=>whnf);refine LoadA.cells (qu hc 1 Oo) rfl (zw ?_);refine zJ 2 ?_;(conv=>whnf);refine LoadA.cells (qu hc 2 Oo) rfl (zw ?_);refine zJ 3 ?_;(conv=>whnf);refine LoadA.cells (qu hc 3 Oo) rfl ?_;refine zS H 1 ?_;intro w8 H;refine qk (R:=λv w'=>v=.tuple #[qw (q4Of l q),.bool true]/\Ext w w') ?_;refine zl H 1 ?_;exact⟨rfl,H.ext⟩
theorem VocAt.other{x:Nat}{t:Dg}(h:VocAt w b l)(W:w.heap[x]?=some (.cells cs t fz))(ht:t≠395)(O:t≠305)(hc:∀v∈cs.toList,∀c:Nat,v≠.int .u8 c)(Z:∀c,c≠x->w'.heap[c]?=w.heap[c]?):VocAt w' b l:=by
 obtain⟨d,H,h2⟩:=h;have U:b≠x:=by
  intro e;subst e;rw[W]at H
  injection H with H
  injection H with _ H _
  exact O H
 exact⟨d,by rw[Z b U];exact H,λk hk=>(h2 k hk).other W ht hc Z⟩
theorem TreeAt.other{x:Nat}{v:Di}(h:TreeAt w b l)(Z:w.heap[x]?=some (.cells #[v] 38 fz))(hv:∀(k:IntKind) (c:Int),v≠.int k c)(hw:∀c,c≠x->w'.heap[c]?=w.heap[c]?):TreeAt w' b l:=by
 have O:∀(z:LB),∀y∈z,∀u∈(#[v]:Dq).toList,(encB y)[0]?≠some u:=λz y _ u hu e=>by
  simp only[Aw,BH,or_false]at hu;subst hu;cases e;exact hv _ _ rfl
 refine⟨λk hk=>?_,h.n,h.wd⟩;obtain⟨P,cp,S,cs,V,h1,h2,h3,h4,U⟩:=h.lv k hk;refine⟨P,cp,S,cs,V,h1.other ?_ hw,h2.other Z (O _) (λ_ _ e=>by cases e) hw,h3.other Z (O _) (λ_ _ e=>by cases e) hw,h4,?_⟩
 ·intro e;have h6:=h1 0 _ rfl;rw[e,qa Z]at h6;have W:(#[v]:Dq)[8*k+0]?=some (ii (vNum l k)):=h6
  rcases B0 k with rfl|aa
  ·exact hv _ _ (Bg W)
  ·rw[Cq Ys]at W;cases W
 ·rcases U with U|⟨U,h6,vb,W,H⟩
  ·exact .inl U
  ·refine .inr ⟨U,h6,vb,W,?_⟩;rw[hw vb ?_]
   ·exact H
   ·intro e;subst e;rw[Z]at H
    injection H with H
    injection H with _ H _
    exact absurd H Od
theorem qhr(U H:Nat)(W:Mem w0 w ((U,.cells #[.nilIface] 38)::M)):
  GvD Dp 232 [pp U,ii H] w λw'=>Ext w w':=by
 refine gvD Jk Tryz.func232 rfl Tryz.ntmps232 rfl (zw ?_);refine znm (Mem.nil w) ?_;intro t4 Z O;refine LoadV.mem (W.call O.ext) (i:=0) rfl rfl (zw ?_);refine zcv (qna _ Z) ?_;rintro r w2 ⟨rfl,rfl⟩;refine zu ?_;exact O.ext
theorem qum(fb n cc H:Nat)(W:oA)(w:Dd)(h1:w.cell? ⟨fb,4,none⟩=some (.slice W n cc))(h2:w.cell? ⟨fb,6,none⟩=some (ii H))(_:H<=1152921504606846976)(f:FuncId)(U:Nat->Dl)(ad:∀b w w',U b w->Ext w w'->U b w')(ae:∀(b:Nat) (w w':Dd) (x:Nat) (fz:Nat×Nat),U b w->w.heap[x]?=some (.cells #[.nilIface] 38 fz)->(∀c,c≠x->w'.heap[c]?=w.heap[c]?)->U b w')(hf:∀w',Ext w w'->Gv Dp f [.slice W n cc] w' λv aa=>(∃b,v=.tuple #[pp b,.nilIface]/\U b aa)/\Ext w' aa):
  Gv Dp 161 [pp fb,.func (.func f) #[] #[]] w λv w'=>(∃b,v=.tuple #[pp b,.nilIface]/\U b w')/\Ext w w':=by
 refine gvW Jk Tryz.func161 rfl Tryz.ntmps161 rfl (zw ?_);refine znm (Mem.nil w) ?_;intro c5 w1 Z;refine LoadV.of (v:=ii H) (Z.ext.cell h2) ?_;refine LoadV.of (v:=.slice W n cc) (Z.ext.cell h1) (zw ?_);refine zcv (hf w1 Z.ext) ?_;rintro v w2 ⟨⟨b,rfl,hb⟩,af⟩;have Z:=Z.call af;refine StoreV.row Z (i:=0) rfl Js rfl ?_;intro w3 ag _ O;have hb:=ae b w2 w3 c5 (0,0) hb (Z.get mh) ag;have O:Mem w w3 ((c5,.cells #[.nilIface] 38)::[]):=O;refine LeaveV.call ((qhr c5 H O).mono λw4 ab=>?_);have ac:=O.call ab;refine qk (R:=λv w'=>(∃b,v=.tuple #[pp b,.nilIface]/\U b w')/\Ext w w') ?_;refine zr ac 0 ?_;exact⟨⟨b,rfl,ad _ _ _ hb ab⟩,ac.ext⟩
theorem qx0(fb n cc H:Nat)(W:oA)(w:Dd)(h1:w.cell? ⟨fb,5,none⟩=some (.slice W n cc))(h2:w.cell? ⟨fb,7,none⟩=some (ii H))(_:H<=1152921504606846976)(f:FuncId)(U:Nat->Dl)(ad:∀b w w',U b w->Ext w w'->U b w')(ae:∀(b:Nat) (w w':Dd) (x:Nat) (fz:Nat×Nat),U b w->w.heap[x]?=some (.cells #[.nilIface] 38 fz)->(∀c,c≠x->w'.heap[c]?=w.heap[c]?)->U b w')(hf:∀w',Ext w w'->Gv Dp f [.slice W n cc] w' λv aa=>(∃b,v=.tuple #[pp b,.nilIface]/\U b aa)/\Ext w' aa):
  Gv Dp 162 [pp fb,.func (.func f) #[] #[]] w λv w'=>(∃b,v=.tuple #[pp b,.nilIface]/\U b w')/\Ext w w':=by
 refine gvW Jk Tryz.func162 rfl Tryz.ntmps162 rfl (zw ?_);refine znm (Mem.nil w) ?_;intro c5 w1 Z;refine LoadV.of (v:=ii H) (Z.ext.cell h2) ?_;refine LoadV.of (v:=.slice W n cc) (Z.ext.cell h1) (zw ?_);refine zcv (hf w1 Z.ext) ?_;rintro v w2 ⟨⟨b,rfl,hb⟩,af⟩;have Z:=Z.call af;refine StoreV.row Z (i:=0) rfl Js rfl ?_;intro w3 ag _ O;have hb:=ae b w2 w3 c5 (0,0) hb (Z.get mh) ag;have O:Mem w w3 ((c5,.cells #[.nilIface] 38)::[]):=O;refine LeaveV.call ((qhr c5 H O).mono λw4 ab=>?_);have ac:=O.call ab;refine qk (R:=λv w'=>(∃b,v=.tuple #[pp b,.nilIface]/\U b w')/\Ext w w') ?_;refine zr ac 0 ?_;exact⟨⟨b,rfl,ad _ _ _ hb ab⟩,ac.ext⟩
theorem qzy(l:LB)(A B:oA)(w:Dd)(f1 f2:FuncId)(H O:Nat->Dl)(U:∀b w w',H b w->Ext w w'->H b w')(ab:∀(b:Nat) (w w':Dd) (x:Nat) (fz:Nat×Nat),H b w->w.heap[x]?=some (.cells #[.nilIface] 38 fz)->(∀c,c≠x->w'.heap[c]?=w.heap[c]?)->H b w')(aa:∀b w w',O b w->Ext w w'->O b w')(ac:∀(b:Nat) (w w':Dd) (x:Nat) (fz:Nat×Nat),O b w->w.heap[x]?=some (.cells #[.nilIface] 38 fz)->(∀c,c≠x->w'.heap[c]?=w.heap[c]?)->O b w')(ag:∀w',Ext w w'->Gv Dp f1 [.slice A (hN l 4) (hN l 4)] w' λv W=>(∃b,v=.tuple #[pp b,.nilIface]/\H b W)/\Ext w' W)(ah:∀w',Ext w w'->Gv Dp f2 [.slice B (hN l 5) (hN l 5)] w' λv W=>(∃b,v=.tuple #[pp b,.nilIface]/\O b W)/\Ext w' W):
  Gv Dp 94 [.agg (okF l A B).toArray,.func (.func f1) #[] #[],.func (.func f2) #[] #[]] w λv w'=>(∃b vb tb,v=.tuple #[pp b,.nilIface]/\
   w'.heap[b]?=some (.cells #[ii (hN l 2),ii (hN l 3),ii (hN l 4),ii (hN l 5),pp vb,pp tb] 241)/\H vb w'/\O tb w')/\Ext w w':=by
 have h4:=qabe l 4;refine ze Tryz.func94 Tryz.ntmps94 ?_;refine znm (Mem.nil w) ?_;intro fb w1 Z;have hg:=Z.get mh;(conv=>whnf);refine zcv (qum fb (hN l 4) (hN l 4) 28 A w1 (by rw[qa hg];rfl) (by rw[qa hg];rfl) Oo f1 H U ab (λw' he=>ag w' (Z.ext.trans he))) ?_;rintro v w2 ⟨⟨vb,rfl,hv⟩,ai⟩;replace Z:=Z.call ai;have hg:=Z.get mh;refine zu ?_;refine zcv (qx0 fb (hN l 5) (hN l 5) (32+hN l 4) B w2 (by rw[qa hg];rfl) (by rw[qa hg];rfl) Oo f2 O aa ac (λw' he=>ah w' (Z.ext.trans he))) ?_;rintro v w3 ⟨⟨tb,rfl,ht⟩,ad⟩;replace Z:=Z.call ad;have hv:=U _ _ _ hv ad;refine zu ?_;have aj:CellsAt w3 fb 0 [ii (hN l 2:Nat),ii (hN l 3:Nat),ii (hN l 4:Nat),ii (hN l 5:Nat)]:=λk v hv=>by
  have hk:k<4:=(Ad.1 hv).1;refine CellsAt.mem Z mh k v ?_
  rcases(show k=0\/k=1\/k=2\/k=3 by omega)with rfl|rfl|rfl|rfl<;>exact hv
 refine LoadA.cells aj rfl (zw ?_);refine⟨λb w4 hb hw=>?_⟩;have ae:Ext w3 w4:=by rw[hw];exact xr.alloc _
 have af:=Z.new hb hw;(conv=>whnf);exact⟨⟨b,vb,tb,rfl,af.get mh,U _ _ _ hv ae,aa _ _ _ ht ae⟩,af.ext⟩
structure PackAt(w:Dd)(b:Nat)(l:LB):Prop where
 h:∃vb tb,w.heap[b]?=some (.cells #[ii (hN l 2),ii (hN l 3),ii (hN l 4),ii (hN l 5),pp vb,pp tb] 241)/\VocAt w vb (qp l)/\TreeAt w tb (qt l)
theorem PackAt.ext(h:PackAt w b l)(H:Ext w w'):PackAt w' b l:=by
 obtain⟨O,U,W,Z,h3⟩:=h;exact⟨O,U,H.get W,Z.ext H,h3.ext H⟩
theorem qly(h:(qb0 l).2=0):l.length=hN l 4+hN l 5+36/\l.length<=67108864:=by
 unfold qb0 at h
 split at h
 ·cases h
 split at h
 ·cases h
 split at h
 ·cases h
 split at h
 ·cases h
 split at h
 ·cases h
 split at h
 ·cases h
 split at h
 ·cases h
 omega
theorem qu3(h:(qb0 l).2=0):(qp l).length=hN l 4:=by
 have:=qly h;rw[qp,A4,zld];omega
theorem qzr(h:(qb0 l).2=0):(qt l).length=hN l 5:=by
 have:=qly h;rw[qt,A4,zld];omega
theorem q3y(h:(packE l).2=0):(qb0 l).2=0/\(wE (qp l)).2=0/\(tE (qt l)).2=0:=by
 unfold packE at h
 grind
theorem q4c(l:LB)(A:oA)(c:Nat)(w:Dd)(hS:SlAt encB 1 w A l)(hc:l.length<=c)(hl:l.length<=140737488355328)(hT:CellsAt w 3 0 qg4)(hE:(packE l).2=0)(hV:∀k,0<k->k<4->tVec (qt l) k=true):
  Gv Dp 37 [.slice A l.length c] w λv w'=>(∃b,v=.tuple #[pp b,.nilIface]/\PackAt w' b l)/\Ext w w':=by
 obtain⟨W,hv,Z⟩:=q3y hE;refine ze Tryz.func37 Tryz.ntmps37 ?_;refine zcv (qxz l A c w hS hc hl hT W) ?_;rintro v w1 ⟨⟨A',B',rfl,hA,hB⟩,aa⟩;have ab:=qu3 W;have ac:=qzr W;have ag:=qly W;refine znm (Mem.nil w1) ?_;intro t4 w2 O;refine StoreA.all O (i:=0) rfl rfl (by simp[okF,Value.oneCell']) λw3 O=>zu ?_;refine zL O 0 ?_;have ad:=hA.ext O.ext;have ae:=hB.ext O.ext;refine zcv (qzy l A' B' w3 95 96 (λb w=>VocAt w b (qp l)) (λb w=>TreeAt w b (qt l)) (λb w w' h U=>h.ext U) (λb w w' x fz h H hw=>h.other H Od Od (λv hv c=>by simp only[Aw,BH,or_false]at hv;subst hv;intro e;cases e) hw) (λb w w' h U=>h.ext U) (λb w w' x fz h H hw=>h.other H (λk c e=>by cases e) hw) (λw' H=>?_) (λw' H=>?_)) ?_
 ·have:=qk7 (qp l) A' (hN l 4) w' (ad.ext H) Oo Oo hv;rw[ab]at this;exact this
 ·have:=q46 (qt l) B' (hN l 5) w' (ae.ext H) Oo Oo Z hV;rw[ac]at this;exact this.mono λv ah ⟨⟨b,h1,_,h2⟩,U⟩=>⟨⟨b,h1,h2⟩,U⟩
 rintro v w4 ⟨⟨b,vb,tb,rfl,hb,hv,Z⟩,af⟩;(conv=>whnf);exact⟨⟨b,rfl,vb,tb,hb,hv,Z⟩,(aa.trans O.ext).trans af⟩
def pS1(l:LB):Prop:=(crcL (qp l)).toNat=leN ((l.drop (28+hN l 4)).take 4)
def pS2(l:LB):Prop:=(crcL (qt l)).toNat=leN ((l.drop (32+hN l 4+hN l 5)).take 4)
def qadg(l:LB)(i:Nat):Prop:=(∀j,j<4->qdo (qp l) (tNum (qt l) i j)≠none)/\qbw (q4Of (qp l) (tNum (qt l) i))=0
def qu2(l:LB):Prop:=∀i,i<vNum (qt l) 3->qadg l i
def q3x(l:LB):Prop:=∀id,1<=id->id<=vTot (qp l) 3->∃i,i<vNum (qt l) 3/\∃j,j<4/\tNum (qt l) i j=id
open Classical in
noncomputable def poE(l:LB):Nat×Nat:=
 if(qb0 l).2≠0 then qb0 l else if ¬pS1 l then(28+hN l 4,30)else if ¬pS2 l then(32+hN l 4+hN l 5,30)
 else if(vwE (qp l)).2≠0 then(28+(vwE (qp l)).1,(vwE (qp l)).2)else if(toE (qt l)).2≠0 then(32+hN l 4+(toE (qt l)).1,(toE (qt l)).2)
 else if vNum (qt l) 3≠hN l 2 then(8,180)else if vTot (qp l) 3≠hN l 3 then(12,170)
 else if ¬qu2 l then(32+hN l 4,180)else if ¬q3x l then(28,170)else(0,0)
section
variable {l:LB}
theorem q36(h:(qb0 l).2≠0):poE l=qb0 l:=by rw[poE,Af h]
theorem qab8(h:(qb0 l).2=0)(H:¬pS1 l):poE l=(28+hN l 4,30):=by grind [poE]
theorem qab9(h:(qb0 l).2=0)(H:pS1 l)(O:¬pS2 l):poE l=(32+hN l 4+hN l 5,30):=by grind [poE]
theorem qadf(h:(qb0 l).2=0)(H:pS1 l)(O:pS2 l)(U:(vwE (qp l)).2≠0):poE l=(28+(vwE (qp l)).1,(vwE (qp l)).2):=by
 grind [poE]
theorem qade(h:(qb0 l).2=0)(H:pS1 l)(O:pS2 l)(U:(vwE (qp l)).2=0)(W:(toE (qt l)).2≠0):poE l=(32+hN l 4+(toE (qt l)).1,(toE (qt l)).2):=by
 grind [poE]
theorem qadd(h:(qb0 l).2=0)(H:pS1 l)(O:pS2 l)(U:(vwE (qp l)).2=0)(W:(toE (qt l)).2=0)(Z:vNum (qt l) 3≠hN l 2):poE l=(8,180):=by
 grind [poE]
theorem qadc(h:(qb0 l).2=0)(H:pS1 l)(O:pS2 l)(U:(vwE (qp l)).2=0)(W:(toE (qt l)).2=0)(Z:vNum (qt l) 3=hN l 2)(h6:vTot (qp l) 3≠hN l 3):poE l=(12,170):=by
 grind [poE]
theorem q9c(h:(qb0 l).2=0)(H:pS1 l)(O:pS2 l)(U:(vwE (qp l)).2=0)(W:(toE (qt l)).2=0)(Z:vNum (qt l) 3=hN l 2)(h6:vTot (qp l) 3=hN l 3)(h7:¬qu2 l):poE l=(32+hN l 4,180):=by
 grind [poE]
theorem qu9(h:(qb0 l).2=0)(H:pS1 l)(O:pS2 l)(U:(vwE (qp l)).2=0)(W:(toE (qt l)).2=0)(Z:vNum (qt l) 3=hN l 2)(h6:vTot (qp l) 3=hN l 3)(h7:qu2 l)(h8:¬q3x l):poE l=(28,170):=by
 grind [poE]
theorem qab7(h:(qb0 l).2=0)(H:pS1 l)(O:pS2 l)(U:(vwE (qp l)).2=0)(W:(toE (qt l)).2=0)(Z:vNum (qt l) 3=hN l 2)(h6:vTot (qp l) 3=hN l 3)(h7:qu2 l)(h8:q3x l):poE l=(0,0):=by
 grind [poE]
theorem qta(h:(poE l).2=0):(qb0 l).2=0/\pS1 l/\pS2 l/\(vwE (qp l)).2=0/\(toE (qt l)).2=0/\vNum (qt l) 3=hN l 2/\vTot (qp l) 3=hN l 3/\qu2 l/\q3x l:=by
 by_cases H:(qb0 l).2=0
 case neg=>grind [q36]
 by_cases O:pS1 l
 case neg=>grind [qab8]
 by_cases U:pS2 l
 case neg=>grind [qab9]
 by_cases W:(vwE (qp l)).2=0
 case neg=>grind [qadf]
 by_cases Z:(toE (qt l)).2=0
 case neg=>grind [qade]
 grind [qadd,qadc,qu2,q9c,qu9]
end
structure VTm(l:LB)(k j:Nat)(ts:List TM):Prop where
 len:ts.length=vTot l k+j
 ok:∀t∈ts,TermOk t
 at_:∀k' j',(k'<k/\j'<dN (sDict l k'))\/(k'=k/\j'<j)->∃s t,dGet (sDict l k') j'=some s/\s.length<=262144/\ReadsAs ((k'+1:Nat):Int) s t/\ts[vTot l k'+j']?=some t
theorem qv7:Dp.underlying 28=some (.slice 45):=Tryz.underlying28
theorem trmI:Dp.info? 45=some ((Dp.info? 45).get Jk):=(BA _).symm
theorem trmZ:((Dp.info? 45).get Jk).zero=some ((((Dp.info? 45).get Jk).zero).get Jk):=(BA _).symm
def txtC(a b:De):Int:=if slt a b=true then -1 else if seq a b=true then 0 else 1
def cmpT(a b:TM):Int:=
 if a.kind≠b.kind then(if a.kind<b.kind then -1 else 1)else if txtC a.text b.text≠0 then txtC a.text b.text else if txtC a.type b.type≠0 then txtC a.type b.type else txtC a.lang b.lang
theorem q4d(q:Q4):qbw q=if qE 0 q.s≠0 then qE 0 q.s else if qE 1 q.p≠0 then qE 1 q.p else if qE 2 q.o≠0 then qE 2 q.o else qE 3 q.g:=by
 have U:((List.range 4).map λk=>qE k (q.at k)).length=4:=by simp
 have H:∀j (hj:j<((List.range 4).map λk=>qE k (q.at k)).length),((List.range 4).map λk=>qE k (q.at k))[j]=qE j (q.at j):=λj hj=>by simp
 have O:∀k,k<4->(∀j,j<k->qE j (q.at j)=0)->qE k (q.at k)≠0->qbw q=qE k (q.at k):=λk hk h aa=>by
  rw[qbw,qiz (k:=k) (by rw[U];exact hk) (λj hj ab=>by rw[H];exact h j ab) (by rw[H];exact aa),H]
 by_cases W:qE 0 q.s≠0
 ·rw[Af W];exact O 0 Oo (λj h=>by omega) W
 rw[Ab W]
 by_cases Z:qE 1 q.p≠0
 ·rw[Af Z];exact O 1 Oo (λj h=>by(obtain rfl:j=0:=by omega);exact B9.1 W) Z
 rw[Ab Z]
 by_cases h2:qE 2 q.o≠0
 ·rw[Af h2];exact O 2 Oo (λj h=>by
   rcases(show j=0\/j=1 by omega)with rfl|rfl
   ·exact B9.1 W
   ·exact B9.1 Z) h2
 rw[Ab h2]
 by_cases h3:qE 3 q.g≠0
 ·exact O 3 Oo (λj h=>by
   rcases(show j=0\/j=1\/j=2 by omega)with rfl|rfl|rfl
   ·exact B9.1 W
   ·exact B9.1 Z
   ·exact B9.1 h2) h3
 ·rw[B9.1 h3,qbw,qde λj hj=>by
   rw[H];rw[U]at hj
   rcases(show j=0\/j=1\/j=2\/j=3 by omega)with rfl|rfl|rfl|rfl
   ·exact B9.1 W
   ·exact B9.1 Z
   ·exact B9.1 h2
   ·exact B9.1 h3]
theorem qbv{W:Type}(U:W->Dn)(H:Nat)(O:∀x,(U x).length=H):∀(l:List W) (j:Nat) (x:W) (k:Nat),l[j]?=some x->k<H->((l.map U).flatten)[j*H+k]?=(U x)[k]?
 | [],j,x,k,h,_=>by simp at h
 | y::l,0,x,k,h,Z=>by
  simp only[Bc,AN]at h;subst h;simp only[AF,BR,Nat.zero_mul,Aq];rw[Bb (by rw[O];exact Z)]
 | y::l,j+1,x,k,h,Z=>by
  simp only[Cn]at h;simp only[AF,BR];rw[Be (by rw[O,Ch];omega),O,show(j+1)*H+k-H=j*H+k by rw[Ch];omega];exact qbv U H O l j x k h Z
theorem q8z{α:Type}{O:α->Dn}{H n:Nat}{l:List α}(U:∀x,(O x).length=H)(h:w.ownsRow base e H (.slice A n c) n (l.map O).flatten)(hn:l.length=n):
  SlAt O H w A l/\n<=c:=by
 obtain⟨h1,⟨h2,W⟩|⟨g,ab,cur,h2,_,W,h4,_,h5,h6⟩⟩:=h
 ·subst W;refine⟨⟨λZ=>absurd (AK hn) Z⟩,An _⟩
 ·cases h2;refine⟨⟨λ_=>⟨g,0,rfl,λj x hx k v hv=>?_⟩⟩,h4⟩;have hk:k<H:=by
   have:=(Ad.1 hv).1
   rwa[U]at this
  have hj:j<n:=by rw[<-hn];exact(Ad.1 hx).1
  have aa:j*H+k<n*H:=by
   have:(j+1)*H<=n*H:=Bd _ hj;rw[Ch]at this;omega
  rw[qa W,Aq,<-hv,<-qbv O H U l j x k hx hk,<-h6,Bn,Af aa];simp
theorem qag(t:TM):(encT t).length=4:=rfl
def qcx(out:List TM)(x:TM):List TM:=
 match out.getLast? with
 | some z=>bif qx z x then out else out++[x]
 | none=>out++[x]
def mrgN:Nat->List TM->List TM->List TM->List TM
 | 0,_,_,out=>out
 | f+1,a,b,out=>
  match a,b with
  | [],[]=>out
  | x::a,[]=>mrgN f a [] (qcx out x)
  | [],y::b=>mrgN f [] b (qcx out y)
  | x::a,y::b=>if cmpT x y<=0 then mrgN f a (y::b) (qcx out x)else mrgN f (x::a) b (qcx out y)
def tmsN:Nat->List TM->List TM
 | 0,l=>l
 | f+1,l=>if l.length<2 then l else mrgN ((tmsN f (l.take (l.length/2))).length+(tmsN f (l.drop (l.length/2))).length) (tmsN f (l.take (l.length/2))) (tmsN f (l.drop (l.length/2))) []
theorem qij(out:List TM)(x:TM):(qcx out x).length<=out.length+1:=by
 unfold qcx
 split
 ·cases qx _ x<;>simp
 ·simp
theorem qi4:∀(f:Nat) (a b out:List TM),(mrgN f a b out).length<=a.length+b.length+out.length
 | 0,a,b,out=>by rw[mrgN];omega
 | f+1,a,b,out=>by
  unfold mrgN
  split
  ·omega
  ·rename_i x a
   have:=qi4 f a [] (qcx out x);have:=qij out x;simp only[AH]at *;omega
  ·rename_i y b
   have:=qi4 f [] b (qcx out y);have:=qij out y;simp only[AH]at *;omega
  ·rename_i x a y b
   split
   ·have:=qi4 f a (y::b) (qcx out x);have:=qij out x;simp only[AH]at *;omega
   ·have:=qi4 f (x::a) b (qcx out y);have:=qij out y;simp only[AH]at *;omega
theorem qq5:∀(f:Nat) (l:List TM),(tmsN f l).length<=l.length
 | 0,l=>Ao _
 | f+1,l=>by
  rw[tmsN]
  split
  ·exact Ao _
  ·have H:=qq5 f (l.take (l.length/2));have O:=qq5 f (l.drop (l.length/2));refine A6 (qi4 _ _ _ _) ?_;rw[A4]at H;rw[zld]at O;simp only[C4];omega
def TmR(l:List TM)(v:Di)(w:Dd):Prop:=∃B d,v=.slice B l.length d/\l.length<=d/\SlAt encT 4 w B l
theorem qbs{W:Type}(O:W->Dn)(H:Nat)(U:∀x,(O x).length=H)(l:List W):((l.map O).flatten).length=l.length*H:=by
 induction l with
 | nil=>simp
 | cons x l Z=>simp only[AF,BR,zla,U,Z,AH,Ch];omega
theorem qfl{U:Type}{enc:U->Dn}{size:Nat}(O:0<size)(H:∀x,(enc x).length=size){l:List U}(h:∀(j:Nat) x,l[j]?=some x->CellsAt w b (off+j*size) (enc x)):CellsAt w b off (l.map enc).flatten:=by
 intro k v hv;have W:=(Ad.1 hv).1;rw[qbs enc size H]at W;have hj:k/size<l.length:=(Nat.div_lt_iff_lt_mul O).2 W;have Z:=zge hj;have hm:=Cb k O;have he:=qbv enc size H l (k/size) _ (k%size) Z hm;rw[show k/size*size+k%size=k from by rw[BN];exact Nat.div_add_mod k size]at he;rw[he]at hv;have:=h (k/size) _ Z (k%size) v hv
 rwa[show off+k/size*size+k%size=off+k from by rw[C1,show k/size*size+k%size=k from by rw[BN];exact Nat.div_add_mod k size]]at this
def trQ(q:Q4):List TM:=[q.s,q.p,q.o]++if q.g.kind=0 then[]else[q.g]
def trms(H:List Q4):List TM:=(H.map trQ).flatten
theorem qact(q:Q4):(trQ q).length<=4:=by unfold trQ;split<;>simp
theorem qq7(H:List Q4):(trms H).length<=4*H.length:=by
 induction H with
 | nil=>exact Ao _
 | cons q H O=>
  have:=qact q;simp only[trms,AF,BR,zla,AH]at O|-;omega
theorem qo3(H:List Q4)(i:Nat)(q:Q4)(h:H[i]?=some q):trms (H.take (i+1))=trms (H.take i)++trQ q:=by
 rw[Bu,h];simp[trms]
theorem qxk(q:Q4):∀v∈encT q.s++encT q.p++encT q.o,v.oneCell'=true:=by
 intro v hv
 rcases AJ.1 hv with hv|hv
 ·rcases AJ.1 hv with hv|hv
  ·exact qab _ v hv
  ·exact qab _ v hv
 ·exact qab _ v hv
def sT(ts:List TM)(j:Nat):TM:=if j=0 then zTM else ts.getD (j-1) zTM
def sA(ts:List TM)(q:Nat->Nat)(k j:Nat):TM:=if j<k then sT ts (q j)else zTM
theorem qoe(q:Q4):(qe q).length=16:=rfl
theorem qa8(q:Q4):∀v∈qe q,v.oneCell'=true:=by
 intro v hv;unfold qe at hv
 rcases AJ.1 hv with hv|hv
 ·exact qab _ v hv
 ·rcases AJ.1 hv with hv|hv
  ·exact qab _ v hv
  ·rcases AJ.1 hv with hv|hv
   ·exact qab _ v hv
   ·exact qab _ v hv
namespace V
end V
def LtT(a b:TM):Prop:=a.kind<b.kind\/(a.kind=b.kind/\(slt a.text b.text=true\/(a.text=b.text/\(slt a.type b.type=true\/(a.type=b.type/\slt a.lang b.lang=true)))))
theorem q99{a b:De}:txtC a b<0↔slt a b=true:=by
 grind [txtC]
theorem q1b{a b:De}:txtC a b=0↔a=b:=by
 grind [txtC,qhg,qa6]
theorem qar{a b:TM}:cmpT a b<0↔LtT a b:=by
 grind [cmpT,LtT,q99,q1b,qhg]
theorem qa4{a b:TM}:cmpT a b=0↔a=b:=by
 obtain⟨U,H,W,Z⟩:=a;obtain⟨bk,bt,O,bl⟩:=b
 grind [cmpT,q1b]
theorem LtT.irrefl(a:TM):¬LtT a a:=λh=>by
 have H:=qar.2 h
 grind [qa4]
theorem LtT.ne{a b:TM}(h:LtT a b):a≠b:=by
 grind [LtT.irrefl]
theorem LtT.trans{a b c:TM}(h:LtT a b)(g:LtT b c):LtT a c:=by
 grind [LtT,qjm]
theorem LtT.tri(a b:TM):LtT a b\/a=b\/LtT b a:=by
 unfold LtT
 rcases Int.lt_trichotomy a.kind b.kind with h|h|h
 ·omega
 ·rcases qmr a.text b.text with H|H|H
  ·simp_all
  ·rcases qmr a.type b.type with O|O|O
   ·simp_all
   ·rcases qmr a.lang b.lang with U|U|U
    ·simp_all
    ·refine .inr (.inl ?_);cases a;simp_all
    simp_all
   simp_all
  simp_all
 omega
def RiseT(l:List TM):Prop:=l.Pairwise LtT
def AheadT(out l:List TM):Prop:=∀z,out.getLast?=some z->∀x∈l,z=x\/LtT z x
theorem RiseT.lt_last(h:RiseT out){z:TM}(O:out.getLast?=some z):∀x∈out,x=z\/LtT x z:=by
 obtain⟨U,rfl⟩:=List.getLast?_eq_some_iff.1 O;intro x H
 rcases AJ.1 H with H|H
 ·exact .inr ((Cj.1 h).2.2 x H z Js)
 simp_all
theorem qek{x:TM}(h:RiseT out)(U:AheadT out [x]):RiseT (qcx out x)/\(∀y,y∈qcx out x↔y∈out\/y=x)/\(qcx out x).getLast?=some x:=by
 unfold qcx
 split
 ·rename_i z O
  rcases U z O x Js with rfl|H
  ·grind [ql]
  ·have:qx z x=false:=CB.2 λe=>H.ne (ql.1 e)
   rw[this];refine⟨?_,λy=>by simp,by simp⟩;refine Cj.2 ⟨h,Js,λa W b Z=>?_⟩;rw[Ac.1 Z]
   rcases h.lt_last O a W with rfl|g
   ·exact H
   ·exact g.trans H
 ·rename_i O
  have:out=[]:=List.getLast?_eq_none_iff.1 O;subst this;exact⟨BV _ _,λy=>by simp,rfl⟩
theorem AheadT.next{a:List TM}{x:TM}(O:RiseT (x::a))(U:(qcx out x).getLast?=some x):AheadT (qcx out x) a:=λz H y W=>by
 rw[U]at H;cases H;exact .inr ((AV.1 O).1 y W)
theorem qd3:∀(f:Nat) (a b out:List TM),a.length+b.length<=f->RiseT a->RiseT b->RiseT out->AheadT out a->AheadT out b->RiseT (mrgN f a b out)/\∀y,y∈mrgN f a b out↔y∈out\/y∈a\/y∈b
 | 0,a,b,out,hf,_,_,ho,_,_=>by
  grind [mrgN]
 | f+1,[],[],out,_,_,_,ho,_,_=>(by grind [mrgN])
 | f+1,x::a,[],out,hf,U,W,ho,h1,h2=>by
  obtain⟨p1,p2,Z⟩:=qek ho (x:=x) λz O y H=>h1 z O y (by rw[Ac.1 H];exact AD ..);obtain⟨r1,r2⟩:=qd3 f a [] (qcx out x) (by simpa using hf) (AV.1 U).2 W p1 (.next U Z) (λz _ y H=>by cases H);refine⟨r1,λy=>?_⟩;rw[mrgN,r2,p2];simp[or_assoc]
 | f+1,[],x::b,out,hf,U,W,ho,h1,h2=>by
  obtain⟨p1,p2,Z⟩:=qek ho (x:=x) λz O y H=>h2 z O y (by rw[Ac.1 H];exact AD ..);obtain⟨r1,r2⟩:=qd3 f [] b (qcx out x) (by simpa using hf) U (AV.1 W).2 p1 (λz _ y H=>by cases H) (.next W Z);refine⟨r1,λy=>?_⟩;rw[mrgN,r2,p2];simp[or_assoc]
 | f+1,x::a,u::b,out,hf,U,W,ho,h1,h2=>by
  have hx:AheadT out [x]:=λz O y H=>h1 z O y (by simp_all)
  have hu:AheadT out [u]:=λz O y H=>h2 z O y (by simp_all)
  rw[mrgN]
  split
  ·rename_i ab
   obtain⟨p1,p2,Z⟩:=qek ho hx;have ac:x=u\/LtT x u:=by
    rcases Int.lt_or_eq_of_le ab with h|h
    all_goals grind [qar,qa4]
   have aa:AheadT (qcx out x) (u::b):=λz O y H=>by
    rw[Z]at O;cases O
    rcases Aw.1 H with rfl|H
    ·exact ac
    ·have:=(AV.1 W).1 y H
     rcases ac with rfl|h
     ·exact .inr this
     ·exact .inr (h.trans this)
   obtain⟨r1,r2⟩:=qd3 f a (u::b) (qcx out x) (by grind) (AV.1 U).2 W p1 (.next U Z) aa
   grind
  ·rename_i ab
   obtain⟨p1,p2,Z⟩:=qek ho hu;have ad:LtT u x:=by
    rcases LtT.tri x u with h|h|h
    all_goals simp_all[Int.le_of_lt,qar,Int.le_of_eq,qa4]
   have aa:AheadT (qcx out u) (x::a):=λz O y H=>by
    rw[Z]at O;cases O
    rcases Aw.1 H with rfl|H
    ·exact .inr ad
    ·exact .inr (ad.trans ((AV.1 U).1 y H))
   obtain⟨r1,r2⟩:=qd3 f (x::a) b (qcx out u) (by grind) U (AV.1 W).2 p1 aa (.next W Z)
   grind
theorem qgc:∀(f:Nat) (l:List TM),l.length<=f->RiseT (tmsN f l)/\∀y,y∈tmsN f l↔y∈l
 | 0,l,h=>by
  have:l=[]:=(by grind)
  subst this;exact⟨List.Pairwise.nil,λy=>Iff.rfl⟩
 | f+1,l,h=>by
  rw[tmsN]
  split
  ·rename_i O
   refine⟨?_,λy=>Iff.rfl⟩
   match l,O with
   | [],_=>exact List.Pairwise.nil
   | [x],_=>exact BV _ _
  ·obtain⟨U,W⟩:=qgc f (l.take (l.length/2)) (by rw[A4];omega);obtain⟨b1,b2⟩:=qgc f (l.drop (l.length/2)) (by rw[zld];omega);obtain⟨r1,r2⟩:=qd3 _ _ _ [] znr U b1 List.Pairwise.nil (λz H=>by cases H) (λz H=>by cases H);refine⟨r1,λy=>?_⟩;rw[r2,W,b2,<-AJ,B4];simp
theorem qpn{m:LB}:∀{i:Nat},(∀j,j<i->(dnF m j).2=0)->DSt m i (dSt m i).1 (dSt m i).2/\(0<i->i<=dN m->dGet m (i-1)=some (dSt m i).1)
 | 0,_=>⟨⟨An _,Oo⟩,Oo⟩
 | i+1,h=>by
  obtain⟨W,_⟩:=qpn (m:=m) (i:=i) λj hj=>h j Oo;have H:=h i Oo;have hd:dSt m i=((dSt m i).1,(dSt m i).2):=rfl;have hp:i%16=0->qz m (i/16)=(dSt m i).2:=λZ=>BI λO=>by
   rw[q2s hd Z O]at H;cases H
  have he:(entG ((qc m).drop (dSt m i).2) (decide (i%16=0)) (dSt m i).1).2.2=0:=BI λO=>by
   rw[qaa8 hd rfl hp O]at H;exact O H
  have U:=W.step hp rfl he;exact⟨U,λ_ h3=>U.get Oo⟩
section
variable {l:LB} {ts:List TM} (hV:VTm l 3 0 ts) (hd:∀k,k<3->(doE (sDict l k)).2=0)
include hV hd
end
theorem q5i(h:(vcE l k).2=0):tVec l k=true/\(voE (qd l k)).2=0/\(0<vNum l k->bitN ((qd l k).drop 8) (vNum l k-1)=1):=by
 grind [tVec,q5h,qac0,qacy]
theorem LvlV.of(h:(vcE l k).2=0):LvlV l k:=by
 obtain⟨H,O,U⟩:=q5i h;simp only[tVec,AB,decide_eq_true_eq]at H;exact⟨VecOk.voE H.1.1 O,H.1.2,H.2,U⟩
theorem qju(h:(toE l).2=0):∀k,1<=k->k<=3->LvlV l k:=λk O U=>by
 obtain⟨_,H⟩:=qty h;obtain⟨_,_,W,_⟩:=q3n (H k Oo)
 grind [LvlV.of]
def dTxt(m:LB)(i:Nat):LB:=(blk (qc m) (qz m (i/16)) (i%16)).1
theorem qpq{m:LB}(h:(doE m).2=0)(O:i<dN m):(blk (qc m) (qz m (i/16)) (i%16)).2.2=0/\dGet m i=some (dTxt m i):=by
 obtain⟨_,_,H,_⟩:=qsb h;have U:=(qpn (m:=m) (i:=i+1) λk W=>H k Oo).2 Oo Oo
 grind [dGet,dTxt]
theorem BEnd.full{m:LB}(h:(doE m).2=0)(k:Nat):BEnd m k (min 16 (dN m-16*k)):=by
 refine⟨λj H=>⟨by omega,?_⟩,by omega,λO U=>by omega⟩;have:=(qpq h (i:=16*k+j) Oo).1
 grind
theorem q16(m:LB)(k j:Nat)(H:j<16):bRow m k j=[ii (16*k+j:Nat),.string ⟨(dTxt m (16*k+j)).toArray⟩]:=by
 grind [bRow,dTxt]
theorem qnf:∀x,x<256->∀r,r<8->(x/2 ^ r≠0↔∃s,s<8/\r<=s/\x/2 ^ s%2=1):=by decide +kernel
theorem qs8{n:Nat}(hd:d.length=upN n 8):PadB d n↔n%8≠0/\(d.getD (n/8) 0).toNat/2 ^ (n%8)≠0:=by
 have hu:upN n 8=(n+7)/8:=rfl
 constructor
 ·rintro⟨t,O,H,U⟩;have W:n%8≠0:=by omega
  have Z:t/8=n/8:=by omega
  grind [bitN,qnf,qaa]
 ·rintro⟨O,H⟩;obtain⟨s,U,W,Z⟩:=(qnf _ (qaa _) _ Oo).1 H;refine⟨8*(n/8)+s,by omega,by omega,?_⟩
  grind [bitN]
theorem q7k{n:Nat}(h:¬PadB d n):∀{m:Nat},n<=m->m<=8*d.length->cnt d m=cnt d n:=by
 intro m H
 induction H with
 | refl=>intro _;rfl
 | step H O=>
  rename_i m
  intro U;rw[cnt,O Oo];have W:=qgj d m;have Z:bitN d m≠1:=λe=>h ⟨m,H,by omega,e⟩
  omega
def mkD(d:LB)(b:Nat):Nat->List (Nat×Nat×Nat)
 | 0=>[]
 | t+1=>if bitN d (8*b+t)=1/\cnt d (8*b+t)%512=0 then mkD d b t++[(512,cnt d (8*b+t)/512,8*b+t)]else mkD d b t
def grD(d:LB)(b:Nat):List (Nat×Nat×Nat):=if 8*b%2048=0 then[(2048,8*b/2048,cnt d (8*b))]else[]
def smD(d:LB)(b:Nat):List (Nat×Nat×Nat):=if 8*b%256=0 then[(256,8*b/256,cnt d (8*b)-cnt d (2048*(8*b/2048)))]else[]
def dirD(d:LB):Nat->List (Nat×Nat×Nat)
 | 0=>[]
 | b+1=>dirD d b++(grD d b++(smD d b++mkD d b 8))
def plD(n:Nat)(x:Nat×Nat×Nat):Nat:=if x.1=2048 then qi n+4*x.2.1 else if x.1=256 then q6 n+2*x.2.1 else qak n+4*x.2.1
def szD(x:Nat×Nat×Nat):Nat:=if x.1=256 then 2 else 4
theorem qg3{d:LB}{b:Nat}:∀{t:Nat} {x:Nat×Nat×Nat},x∈mkD d b t↔∃s,s<t/\bitN d (8*b+s)=1/\cnt d (8*b+s)%512=0/\x=(512,cnt d (8*b+s)/512,8*b+s)
 | 0,x=>by simp[mkD]
 | t+1,x=>by
  rw[mkD]
  split
  ·rename_i h
   rw[AJ,qg3,Ac]
   constructor
   ·rintro(⟨s,W,H⟩|rfl)
    ·exact⟨s,by omega,H⟩
    ·exact⟨t,by omega,h.1,h.2,rfl⟩
   ·rintro⟨s,W,H,O,U⟩
    by_cases e:s=t
    ·subst e;exact .inr U
    ·exact .inl ⟨s,by omega,H,O,U⟩
  ·rename_i h
   rw[qg3]
   constructor
   ·rintro⟨s,W,H⟩;exact⟨s,by omega,H⟩
   ·rintro⟨s,W,H,O,U⟩
    by_cases e:s=t
    ·subst e;exact absurd ⟨H,O⟩ h
    ·exact⟨s,by omega,H,O,U⟩
theorem qdg{d:LB}:∀{H:Nat} {x:Nat×Nat×Nat},x∈dirD d H↔∃b,b<H/\(x∈grD d b\/x∈smD d b\/x∈mkD d b 8)
 | 0,x=>by simp[dirD]
 | H+1,x=>by
  rw[dirD,AJ,qdg,AJ,AJ]
  constructor
  ·rintro(⟨b,U,O⟩|h)
   ·exact⟨b,by omega,O⟩
   ·exact⟨H,by omega,h⟩
  ·rintro⟨b,U,O⟩
   by_cases e:b=H
   ·subst e;exact .inr O
   ·exact .inl ⟨b,by omega,O⟩
theorem qr2{d:LB}{k:Nat}:∀{n:Nat},k<cnt d n->∃i,i<n/\cnt d i=k/\bitN d i=1
 | 0,h=>by simp[cnt]at h
 | n+1,h=>by
  by_cases H:k<cnt d n
  ·obtain⟨i,a,b⟩:=qr2 H;exact⟨i,by omega,b⟩
  ·have O:=qgj d n;rw[cnt]at h;exact⟨n,by omega,by omega,by omega⟩
theorem qada(d:LB)(O:bitN d i=1)(U:cnt d i%512=0):∀n,i<n->((mL d n).drop (4*(cnt d i/512))).take 4=fixL i 4:=by
 intro n H
 induction H with
 | refl=>
  grind [qza,mL,upN,qh]
 | step H W=>
  rename_i n
  have Z:=qza d n;have hc:cnt d i+1<=cnt d n:=by
   have h1:cnt d (i+1)=cnt d i+bitN d i:=rfl;have h2:=qeg (d:=d) (a:=i+1) (b:=n) H;omega
  grind [mL,upN]
section
variable {l:LB} (hv:vOk l=true) (hp:¬PadB (vD l) (vN l)) (hc:cnt (vD l) (vN l)=vM l)
include hv
theorem q6w:(vD l).length=upN (vN l) 8:=by
 simp only[vOk,AB,decide_eq_true_eq]at hv;have H:qa7 (vN l) (vM l)=qi (vN l)+4*upN (vN l) 2048+2*upN (vN l) 256+4*upN (vM l) 512:=rfl
 grind [qi,vD]
include hp hc
theorem q7p{x:Nat×Nat×Nat}(H:x∈dirD (vD l) (upN (vN l) 8)):qi (vN l)<=plD (vN l) x/\plD (vN l) x+szD x<=qa7 (vN l) (vM l)/\
  (∀r,r<szD x->qec (vN l) (plD (vN l) x+r)=plD (vN l) x)/\((qac (vD l) (vN l)).drop (plD (vN l) x)).take (szD x)=fixL x.2.2 (szD x)/\x.2.2<256 ^ szD x:=by
 have O:=q6w hv;have hN:vN l<=67108864:=by
  grind [vOk]
 obtain⟨d,ed⟩:∃d,d=vD l:=⟨_,rfl⟩
 obtain⟨n,en⟩:∃n,n=vN l:=⟨_,rfl⟩
 rw[<-ed,<-en]at O hp hc H;rw[<-en]at hN;rw[<-ed,<-en];have U:=qk8 d n;rw[O]at U;have hG:qi n=8+upN n 8:=rfl;have hS:q6 n=qi n+4*upN n 2048:=rfl;have hM:qak n=q6 n+2*upN n 256:=rfl;have hE:qa7 n (vM l)=qak n+4*upN (vM l) 512:=rfl;rw[<-hG]at U;have ad:=qnw d n;have ae:=qtn d n;have u8:upN n 8=(n+7)/8:=rfl;have aa:upN n 2048=(n+2047)/2048:=rfl;have ab:upN n 256=(n+255)/256:=rfl;have ac:upN (vM l) 512=(vM l+511)/512:=rfl;have af:∀i,i<=n->cnt d i<=n:=λi hi=>A6 (qdv d i) hi
 obtain⟨b,hb,H|H|H⟩:=qdg.1 H
 ·unfold grD at H
  split at H
  ·rename_i h8
   rw[Ac.1 H];have e:plD n (2048,8*b/2048,cnt d (8*b))=qi n+4*(8*b/2048):=rfl;have W:szD (2048,8*b/2048,cnt d (8*b))=4:=rfl;have hj:8*b/2048<upN n 2048:=by omega
   rw[e,W];refine⟨by omega,by omega,λr hr=>?_,?_,?_⟩
   ·grind [qec]
   ·rw[<-Ax,U,BJ Oo,Bx (by grind),qabc _ _ _ hj]
    grind
   grind
  ·cases H
 ·unfold smD at H
  split at H
  ·rename_i h8
   rw[Ac.1 H];obtain⟨v,ev⟩:∃v,v=cnt d (8*b)-cnt d (2048*(8*b/2048)):=⟨_,rfl⟩
   rw[<-ev];have e:plD n (256,8*b/256,v)=q6 n+2*(8*b/256):=rfl;have W:szD (256,8*b/256,v)=2:=rfl;have hj:8*b/256<upN n 256:=by omega
   rw[e,W];refine⟨by omega,by omega,λr hr=>?_,?_,?_⟩
   ·grind [qec]
   ·have e3:q6 n+2*(8*b/256)=qi n+((gL d n).length+2*(8*b/256)):=by omega
    have e4:∀A B:LB,(A++B).drop (A.length+2*(8*b/256))=B.drop (2*(8*b/256)):=λA B=>by simp
    rw[e3,<-Ax,U,e4,BJ Oo,Bx (by grind),qach _ _ _ hj,ev];rw[show 256*(8*b/256)=8*b by omega,show 8*b/256/8=8*b/2048 by omega]
   ·have:=qkd d (2048*(8*b/2048)) (8*b-2048*(8*b/2048))
    grind
  ·cases H
 ·obtain⟨s,hs,h1,h2,rfl⟩:=qg3.1 H;obtain⟨i,ei⟩:∃i,i=8*b+s:=⟨_,rfl⟩
  rw[<-ei]at h1 h2|-;have Z:i<n:=BI λg=>hp ⟨i,by omega,by omega,h1⟩
  have ag:cnt d i+1<=cnt d n:=by
   have h3:cnt d (i+1)=cnt d i+bitN d i:=rfl;have h4:=qeg (d:=d) (a:=i+1) (b:=n) Z;omega
  have e:plD n (512,cnt d i/512,i)=qak n+4*(cnt d i/512):=rfl;have W:szD (512,cnt d i/512,i)=4:=rfl;have hj:cnt d i/512<upN (vM l) 512:=by omega
  rw[e,W];refine⟨by omega,by omega,λr hr=>?_,?_,?_⟩
  ·grind [qec]
  ·have e3:qak n+4*(cnt d i/512)=qi n+((gL d n).length+((sL d n).length+4*(cnt d i/512))):=by omega
   have e4:∀(A B:LB) (k:Nat),(A++B).drop (A.length+k)=B.drop k:=λA B k=>by simp
   rw[e3,<-Ax,U,e4,e4,qada d h1 h2 n Z]
  grind
omit hp in
theorem qxe(h1:qi (vN l)<=i)(h2:i<qa7 (vN l) (vM l)):∃x∈dirD (vD l) (upN (vN l) 8),plD (vN l) x=qec (vN l) i/\plD (vN l) x<=i/\i<plD (vN l) x+szD x:=by
 have O:=q6w hv;obtain⟨d,Z⟩:∃d,d=vD l:=⟨_,rfl⟩
 obtain⟨n,U⟩:∃n,n=vN l:=⟨_,rfl⟩
 rw[<-Z,<-U]at O hc;rw[<-U]at h1 h2;rw[<-Z,<-U];have hG:qi n=8+upN n 8:=rfl;have hS:q6 n=qi n+4*upN n 2048:=rfl;have hM:qak n=q6 n+2*upN n 256:=rfl;have hE:qa7 n (vM l)=qak n+4*upN (vM l) 512:=rfl;have u8:upN n 8=(n+7)/8:=rfl;have W:upN n 2048=(n+2047)/2048:=rfl;have aa:upN n 256=(n+255)/256:=rfl;have ab:upN (vM l) 512=(vM l+511)/512:=rfl
 by_cases g1:i<q6 n
 ·obtain⟨j,ej⟩:∃j,j=(i-qi n)/4:=⟨_,rfl⟩
  have e:8*(256*j)/2048=j:=by omega
  refine⟨(2048,8*(256*j)/2048,cnt d (8*(256*j))),qdg.2 ⟨256*j,by omega,.inl ?_⟩,?_⟩
  all_goals grind [grD,plD,szD,qec]
 ·by_cases g2:i<qak n
  ·obtain⟨j,ej⟩:∃j,j=(i-q6 n)/2:=⟨_,rfl⟩
   have e:8*(32*j)/256=j:=by omega
   refine⟨(256,8*(32*j)/256,cnt d (8*(32*j))-cnt d (2048*(8*(32*j)/2048))),qdg.2 ⟨32*j,by omega,.inr (.inl ?_)⟩,?_⟩
   all_goals grind [smD,plD,szD,qec]
  ·obtain⟨j,ej⟩:∃j,j=(i-qak n)/4:=⟨_,rfl⟩
   obtain⟨H,k1,k2,k3⟩:=qr2 (d:=d) (k:=512*j) (n:=n) Oo;have e0:8*(H / 8)+H % 8=H:=by omega
   refine⟨(512,cnt d H / 512,H),qdg.2 ⟨H / 8,by omega,.inr (.inr (qg3.2 ⟨H % 8,by omega,?_⟩))⟩,?_⟩
   all_goals grind [plD,szD,qec]
end
theorem qwb:∀(b:Nat) {a:Nat},a<=b->b<18446744073709551616->qaf a<=qaf b:=by
 intro b
 induction b using Nat.strongRecOn with
 | _ b H=>
  intro a h O
  by_cases U:a=0
  ·grind [qdc]
  ·rw[qet a U Oo,qet b Oo O];have:=H (b/2) Oo (a:=a/2) Oo Oo;omega
theorem q1w(H:a<18446744073709551616)(O:b<18446744073709551616):qaf (max a b)=max (qaf a) (qaf b):=by
 grind [qwb,Nat.max_eq_left]
def mxN(f:Nat->Nat):Nat->Nat
 | 0=>0
 | i+1=>max (mxN f i) (f i)
theorem qzf{f:Nat->Nat}{B:Nat}(H:0<B):∀{n:Nat},(∀i,i<n->f i<B)->mxN f n<B
 | 0,_=>H
 | n+1,h=>by
  have O:=qzf H (n:=n) λi U=>h i Oo
  grind [mxN]
theorem qt6{f:Nat->Nat}{H:Do}:∀{n:Nat},(∀i,i<n->f i<18446744073709551616/\H.getD i 0=f i)->qaf (mxN f n)=wMx H n
 | 0,_=>qdc
 | n+1,h=>by
  obtain⟨O,U⟩:=h n Oo;rw[mxN,wMx,q1w (qzf Od λi W=>(h i Oo).1) O,qt6 λi W=>h i Oo,U]
theorem qzm(p:LB)(n H:Nat):opE p n H≠0↔PadB p (n*H):=by
 simp[opE,PadB]
def varL(n:Nat):LB:=if n<128 then[UInt8.ofNat n]else UInt8.ofNat (n%128+128)::varL (n/128)
termination_by n
decreasing_by omega
theorem qeq{n:Nat}(h:n<128):varL n=[UInt8.ofNat n]:=by rw[varL,Af h]
theorem qep{n:Nat}(h:128<=n):varL n=UInt8.ofNat (n%128+128)::varL (n/128):=by grind [varL]
theorem qat{n:Nat}(h:n<256):(UInt8.ofNat n).toNat=n:=by
 simp_all
theorem q5g(n:Nat):1<=(varL n).length:=by
 grind [qeq,qep]
theorem qbd(k:Nat):∀n,n<2 ^ (7*(k+1))->(varL n).length<=k+1:=by
 induction k<;>grind [qeq,qep]
theorem quz:∀(n i a:Nat) (r:LB),n*2 ^ (7*i)<2 ^ 64->i<=9->(0<i->0<n)->qg7 i a (varL n++r)=(a+n*2 ^ (7*i),i+(varL n).length,0):=by
 intro n
 induction n using Nat.strongRecOn with
 | _ n H=>
  intro i a r O U W;have Z:i=9->n<2:=by grind
  by_cases h:n<128
  ·grind [qeq,qej,qat]
  ·have e:n%128*2 ^ (7*i)+n/128*2 ^ (7*(i+1))=n*2 ^ (7*i):=by
    grind [Nat.mod_add_div]
   rw[qep Oo,BG,qej,qat Oo,Ab Oo,Ab Oo]
   grind
theorem qa1{n:Nat}(h:n<2 ^ 64)(r:LB):numL (varL n++r)=(n,(varL n).length,0):=by
 grind [numL,quz]
end Go.Proofs.YtccmcfpmknpccaaGreatDoor
