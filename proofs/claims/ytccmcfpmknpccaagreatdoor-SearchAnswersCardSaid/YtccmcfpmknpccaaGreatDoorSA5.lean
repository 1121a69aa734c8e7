/- Lemmas and contracts of functions on the way to the law's card (part 5 of 20). -/
import Derived.Test.YtccmcfpmknpccaaGreatDoorSA4
namespace Go.Proofs.YtccmcfpmknpccaaGreatDoor
open Go.RowKit V
set_option maxRecDepth 100000
variable {w w' w0:DU} {L L':Ed} {a b c d g hi i k lo m nb off rb tb:Nat} {cs cur:Eh} {A B:oA} {R' R2:List (Ee×DZ)} {e ty:DX} {x:DZ} {K:Ea} {O:Ef} {a0:DV} {vals:Eb} {P:DW} {vs:Ee} {l:LB} {mx:Option DZ} {fr:Nat×Nat} {o':Obj}
theorem qfv{t:DX}{v:DZ}{K:Ec}(U:Mem w0 w L)(hi:(b,Obj.cells cs t)∈L)(V:off<cs.size)(W:qco v=true)(Z:∀w' L',Mem w0 w' L'->(b,Obj.cells (cs.setIfInBounds off v) t)∈L'->(∀y∈L,y.1≠b->y∈L')->K w'):StoreV w b off v K:=by
 obtain⟨i,hi⟩:=AP.1 hi;exact StoreV.mem U hi V W λw' h=>Z w' _ h (qgb hi).1 (qgb hi).2
theorem V.SliceV.tailA{n:Nat}{k:IntKind}{K:DZ->Prop}(hA:A=some ⟨g,off,none⟩)(hn:n=m+1)(hc:n<=c)(W:∀V Z,(m≠0->V=some ⟨g,off+1,none⟩)->m<=Z->K (.slice V m Z)):SliceV 1 A n c (some (.int k 1)) none none K:=by
 subst hn hA;refine⟨1,m+1,c,rfl,rfl,rfl,by omega,by omega,by omega,λh=>by simp at h,λV U=>?_⟩;have W:=W V (c-1) (λaa=>?_) Oo
 ·simpa using W
 ·rw[Aa Oo]at U;rw[U];show some ((⟨g,off,none⟩:Addr).add (1*1))=_;rw[qas]
structure RQ0(w0 w:DU)(O:Ef)(rb tb:Nat)(rest:List DV)(a0:DV)(vs es:List DV)(A:oA)(c:Nat)(X Y T4 T5:DZ)(a1 a2 a3 a6:DV)(L:Ed)(R2:List (Ee×DZ)):Prop where
 mem:Mem w0 w L
 rd:(rb,Obj.cells #[.slice A rest.length c] 462)∈L
 tg:(tb,Obj.cells (tagC a0 a1 a2 a3 T4 T5 a6).toArray 263)∈L
 rows:RowsP 9 O L ((vs.map Value.string,X)::(es.map Value.string,Y)::R2)
 sl:rest≠[]->∃g cur off,A=some ⟨g,off,none⟩/\g∈O/\g≠rb/\g≠tb/\(g,Obj.cells cur 9)∈L/\∀(j:Nat) x,rest[j]?=some x->cur[off+j]?=some (Value.string x)
 hc:rest.length<=c
 hrb:rb∈O
 htb:tb∈O
 ne:rb≠tb
 all:∀g∈O,∃o,(g,o)∈L
 small:∀x∈rest,x.size<=1000000
def RQ(w0 w:DU)(O:Ef)(rb tb:Nat)(rest:List DV)(a0:DV)(vs es:List DV)(R2:List (Ee×DZ)):Prop:=
 ∃A c X Y a1 a2 a3 a6 L,RQ0 w0 w O rb tb rest a0 vs es A c X Y X Y a1 a2 a3 a6 L R2
section
variable {w0 w w':DU} {O:Ef} {rb tb:Nat} {rest:List DV} {a0:DV} {vs es:List DV} {R2:List (Ee×DZ)}
theorem RQ.call(h:RQ w0 w O rb tb rest a0 vs es R2)(U:Ext w w'):RQ w0 w' O rb tb rest a0 vs es R2:=by
 obtain⟨A,c,X,Y,a1,a2,a3,a6,L,h⟩:=h;exact⟨A,c,X,Y,a1,a2,a3,a6,L,{ h with mem:=h.mem.call U }⟩
theorem RQ.drew(h:RQ w0 w O rb tb rest a0 vs es R2):RQ w0 w.drew O rb tb rest a0 vs es R2:=h.call (Ext.refl w).drew
theorem RQ.ext(h:RQ w0 w O rb tb rest a0 vs es R2):Ext w0 w:=by
 obtain⟨A,c,X,Y,a1,a2,a3,a6,L,h⟩:=h;exact h.mem.ext
theorem RQ.small(h:RQ w0 w O rb tb rest a0 vs es R2):∀x∈rest,x.size<=1000000:=by
 obtain⟨A,c,X,Y,a1,a2,a3,a6,L,h⟩:=h;exact h.small
theorem RQ0.slAt{X Y T4 T5:DZ}{a1 a2 a3 a6:DV}(h:RQ0 w0 w O rb tb rest a0 vs es A c X Y T4 T5 a1 a2 a3 a6 L R2):SlAt V.zeS 1 w A rest:=by
 refine⟨λU=>?_⟩;obtain⟨g,cur,off,rfl,_,_,_,Z,hx⟩:=h.sl U;refine⟨g,off,rfl,λj x hj k v W=>?_⟩;cases k with
 | succ k=>simp[V.zeS]at W
 | zero=>
  simp only[V.zeS,AT,AR]at W;subst W;rw[qa (h.mem.get Z),BB,AZ];exact hx j x hj
theorem RQ.ldr{K:DZ->Prop}(h:RQ w0 w O rb tb rest a0 vs es R2)(U:∀A c,SlAt V.zeS 1 w A rest->rest.length<=c->K (.slice A rest.length c)):LoadV w rb 0 K:=by
 obtain⟨A,c,X,Y,a1,a2,a3,a6,L,h⟩:=h;exact LoadV.own (h.mem.get h.rd) rfl (U A c h.slAt h.hc)
theorem RQ.ld0{K:DZ->Prop}(h:RQ w0 w O rb tb rest a0 vs es R2)(U:K (.string a0)):LoadV w tb 0 K:=by
 obtain⟨A,c,X,Y,a1,a2,a3,a6,L,h⟩:=h;exact LoadV.own (h.mem.get h.tg) rfl U
theorem RQ0.tag{X Y T4 T5:DZ}{a1 a2 a3 a6 W b1 b2 Z b6:DV}(h:RQ0 w0 w O rb tb rest a0 vs es A c X Y T4 T5 a1 a2 a3 a6 L R2)(hm:Mem w0 w' L')(ht:(tb,Obj.cells (tagC W b1 b2 Z X Y b6).toArray 263)∈L')(U:∀y∈L,y.1≠tb->y∈L'):RQ w0 w' O rb tb rest W vs es R2:=by
 refine⟨A,c,X,Y,b1,b2,Z,b6,L',hm,U _ h.rd h.ne,ht,h.rows.keep λy hy hO=>U y hy λe=>hO (e ▸ h.htb),λV=>?_,h.hc,h.hrb,h.htb,h.ne,λg hg=>?_,h.small⟩
 ·obtain⟨g,cur,off,h1,h2,h3,h4,h5,h6⟩:=h.sl V;exact⟨g,cur,off,h1,h2,h3,h4,U _ h5 h4,h6⟩
 ·by_cases e:g=tb
  ·subst e;exact⟨_,ht⟩
  ·obtain⟨o,ho⟩:=h.all g hg;exact⟨o,U _ ho e⟩
theorem RQ.st{K:Ec}(h:RQ w0 w O rb tb rest a0 vs es R2)(W:k=1\/k=2\/k=3\/k=6)(s:DV)(Z:∀w',RQ w0 w' O rb tb rest a0 vs es R2->K w'):StoreV w tb k (.string s) K:=by
 obtain⟨A,c,X,Y,a1,a2,a3,a6,L,h⟩:=h;have U:k<(tagC a0 a1 a2 a3 X Y a6).toArray.size:=by simp[tagC];omega
 refine qfv h.mem h.tg U rfl λw' L' hm ht V=>Z w' ?_
 rcases W with rfl|rfl|rfl|rfl
 all_goals exact h.tag hm ht V
theorem RQ.st0{K:Ec}(h:RQ w0 w O rb tb rest a0 vs es R2)(s:DV)(V:∀w',RQ w0 w' O rb tb rest s vs es R2->K w'):StoreV w tb 0 (.string s) K:=by
 obtain⟨A,c,X,Y,a1,a2,a3,a6,L,h⟩:=h;exact qfv h.mem h.tg (by simp[tagC]) rfl λw' L' W Z U=>V w' (h.tag W Z U)
end
section
variable {w0 w w':DU} {O:Ef} {rb tb:Nat} {rest:List DV} {a0:DV} {vs es:List DV} {R2:List (Ee×DZ)} {X Y T4 T5:DZ} {A:oA} {c:Nat} {a1 a2 a3 a6:DV} {L L':Ed}
theorem RQ0.call(h:RQ0 w0 w O rb tb rest a0 vs es A c X Y T4 T5 a1 a2 a3 a6 L R2)(U:Ext w w'):RQ0 w0 w' O rb tb rest a0 vs es A c X Y T4 T5 a1 a2 a3 a6 L R2:={ h with mem:=h.mem.call U }
theorem RQ0.grow{X' Y':DZ}{U V:List DV}(h:RQ0 w0 w O rb tb rest a0 vs es A c X Y T4 T5 a1 a2 a3 a6 L R2)(hm:Mem w0 w' L')(hR:RowsP 9 O L' ((U.map Value.string,X')::(V.map Value.string,Y')::R'))(W:∀y∈L,y.1∈O->y∈L'):RQ0 w0 w' O rb tb rest a0 U V A c X' Y' T4 T5 a1 a2 a3 a6 L' R':=by
 refine⟨hm,W _ h.rd h.hrb,W _ h.tg h.htb,hR,λZ=>?_,h.hc,h.hrb,h.htb,h.ne,λg hg=>?_,h.small⟩
 ·obtain⟨g,cur,off,h1,h2,h3,h4,h5,h6⟩:=h.sl Z;exact⟨g,cur,off,h1,h2,h3,h4,W _ h5 h2,h6⟩
 ·obtain⟨o,ho⟩:=h.all g hg;exact⟨o,W _ ho hg⟩
theorem V.RowsP.nilrow{R:List (Ee×DZ)}(h:RowsP e O L R):RowsP e O L (R++[([],.slice none 0 0)]):=by
 have V:∀(k:Nat) p,(R++[([],Value.slice none 0 0)])[k]?=some p->R[k]?=some p\/p=([],.slice none 0 0):=λk p U=>by
  rw[Cp]at U
  split at U
  ·exact .inl U
  ·exact .inr (by have:=zmg U;simpa using this)
 refine⟨λk p U=>?_,λk p g U Z=>?_,λk k' p p' g U W aa Z=>?_⟩
 ·rcases V k p U with U|rfl
  ·exact h.row k p U
  ·exact RowB.nil e L
 ·rcases V k p U with U|rfl
  ·exact h.out k p g U Z
  ·cases Z
 ·rcases V k p U with U|rfl
  ·rcases V k' p' W with W | rfl
   ·exact h.ap k k' p p' g U W aa Z
   ·intro ad;cases ad
  ·cases Z
theorem V.RowsP.newrow{R:List (Ee×DZ)}(h:RowsP e O L R)(hb:∀y∈L,y.1≠b)(hO:b∉O):RowsP e O ((b,.cells #[x] e)::L) (R++[([x],.slice (some ⟨b,0,none⟩) 1 1)]):=by
 have V:∀(k:Nat) p,(R++[([x],Value.slice (some ⟨b,0,none⟩) 1 1)])[k]?=some p->R[k]?=some p\/(k=R.length/\p=([x],.slice (some ⟨b,0,none⟩) 1 1)):=λk p U=>by
  rw[Cp]at U
  split at U
  ·exact .inl U
  ·obtain⟨h1,h2⟩:=Af.1 U;simp at h1;have:k-R.length=0:=by omega
   refine .inr ⟨by omega,?_⟩
   simpa[this]using h2.symm
 have W:∀(k:Nat) p,R[k]?=some p->p.2.ownBlock≠some b:=λk p U hg=>by
  obtain⟨o,ad⟩:=(h.row k p U).in_ hg;exact hb _ ad rfl
 refine⟨λk p U=>?_,λk p g U hg=>?_,λk k' p p' g U Z aa hg=>?_⟩
 ·rcases V k p U with U|⟨_,rfl⟩
  ·exact(h.row k p U).keep λy hy _=>zmc hy
  ·exact⟨.inr ⟨b,1,#[x],rfl,AV ..,Ai _,by decide,rfl,rfl⟩⟩
 ·rcases V k p U with U|⟨_,rfl⟩
  ·exact h.out k p g U hg
  ·cases hg;exact hO
 ·rcases V k p U with U|⟨e1,rfl⟩<;>rcases V k' p' Z with Z | ⟨e2,rfl⟩
  ·exact h.ap k k' p p' g U Z aa hg
  ·intro ae;cases ae;exact W k p U hg
  ·cases hg;exact W k' p' Z
  ·exact absurd (e1.trans e2.symm) aa
theorem V.RowsP.cut{R:List (Ee×DZ)}(h:RowsP e O L (R++R')):RowsP e O L R:=by
 have up:∀(k:Nat) p,R[k]?=some p->(R++R')[k]?=some p:=λk p U=>by
  rw[Ba (Af.1 U).1,U]
 exact⟨λk p U=>h.row k p (up k p U),λk p g U V=>h.out k p g (up k p U) V,λk k' p p' g U W Z V=>h.ap k k' p p' g (up k p U) (up k' p' W) Z V⟩
theorem RQ.nilrow(h:RQ w0 w O rb tb rest a0 vs es []):RQ w0 w O rb tb rest a0 vs es [([],.slice none 0 0)]:=by
 obtain⟨A,c,X,Y,a1,a2,a3,a6,L,h⟩:=h;exact⟨A,c,X,Y,a1,a2,a3,a6,L,{ h with rows:=h.rows.nilrow }⟩
theorem RQ.cut(h:RQ w0 w O rb tb rest a0 vs es R2):RQ w0 w O rb tb rest a0 vs es []:=by
 obtain⟨A,c,X,Y,a1,a2,a3,a6,L,h⟩:=h;exact⟨A,c,X,Y,a1,a2,a3,a6,L,{ h with rows:=RowsP.cut (R:=[(vs.map Value.string,X),(es.map Value.string,Y)]) (R':=R2) h.rows }⟩
theorem NewV.rq{o:Obj}{K:Nat->Ec}(h:RQ w0 w O rb tb rest a0 vs es R2)(V:∀b w',RQ w0 w' O rb tb rest a0 vs es R2->w'.heap[b]?=some o->K b w'):NewV w o K:=
 ⟨λb w' W U=>V b w' (h.call (by subst U;exact(Ext.refl w).alloc o)) (by subst W U;exact heap_alloc_new w o)⟩
theorem NewV.rq0{o:Obj}{K:Nat->Ec}(h:RQ0 w0 w O rb tb rest a0 vs es A c X Y T4 T5 a1 a2 a3 a6 L R2)(V:∀b w',RQ0 w0 w' O rb tb rest a0 vs es A c X Y T4 T5 a1 a2 a3 a6 L R2->w'.heap[b]?=some o->K b w'):NewV w o K:=
 ⟨λb w' W U=>V b w' (h.call (by subst U;exact(Ext.refl w).alloc o)) (by subst W U;exact heap_alloc_new w o)⟩
theorem NewV.rqrow{K:Nat->Ec}(h:RQ w0 w O rb tb rest a0 vs es [])(W:∀b w',RQ w0 w' O rb tb rest a0 vs es [([x],.slice (some ⟨b,0,none⟩) 1 1)]->K b w'):NewV w (.cells #[x] 9) K:=by
 obtain⟨A,c,X,Y,a1,a2,a3,a6,L,h⟩:=h;refine⟨λb w' Z hw=>W b w' ?_⟩;have U:∀y∈L,y.1≠b:=λy V e=>by have:=h.mem.lt (o:=y.2) (b:=y.1) V;omega
 have hO:b∉O:=λhg=>by
  obtain⟨o,ho⟩:=h.all b hg;exact U _ ho rfl
 have hr:=RowsP.newrow (x:=x) h.rows U hO;exact⟨A,c,X,Y,a1,a2,a3,a6,_,h.grow (h.mem.new Z hw) hr λy V _=>zmc V⟩
theorem RQ.appL{l:List DV}{x:DV}{d:DX}(h:RQ w0 w O rb tb rest a0 vs es [(l.map Value.string,.slice B l.length d)])(Z:w.heap[nb]?=some (.cells #[.string x] 9))(hl:l.length<=7000000000000)(hk:∀U V w',RQ w0 w' O rb tb rest a0 vs es [((l++[x]).map Value.string,.slice U (l++[x]).length V)]->K (.slice U (l.length+1) V) w'):AppV Eg #[159,159] ty (.slice B l.length d) (.slice (some ⟨nb,0,none⟩) 1 1) w K:=by
 obtain⟨A,c,X,Y,a1,a2,a3,a6,L,h⟩:=h;refine h.rows.app 2 rfl qv9 strI strZ Jk rfl (by decide +kernel) h.mem h.all Js rfl (by rw[qa Z];rfl) Oo ?_;intro U V w' L' hm hR W;refine hk U V w' ⟨A,c,X,Y,a1,a2,a3,a6,L',h.grow hm ?_ W⟩;rw[AJ,zla];exact hR
theorem RQ.rowL{l:List DV}{n:Nat}(h:RQ w0 w O rb tb rest a0 vs es [(l.map Value.string,.slice B n d)]):SlAt V.zeS 1 w B l:=by
 obtain⟨A,c,X,Y,a1,a2,a3,a6,L,h⟩:=h;exact RowB.sl (h.rows.row 2 _ rfl) h.mem
theorem RQ0.rowL{l:List DV}{n:Nat}(h:RQ0 w0 w O rb tb rest a0 vs es A c X Y T4 T5 a1 a2 a3 a6 L [(l.map Value.string,.slice B n d)]):SlAt V.zeS 1 w B l:=RowB.sl (h.rows.row 2 _ rfl) h.mem
theorem RQ0.app4{x:DV}{d:DX}(h:RQ0 w0 w O rb tb rest a0 vs es A c (.slice B vs.length d) Y T4 T5 a1 a2 a3 a6 L R2)(Z:w.heap[nb]?=some (.cells #[.string x] 9))(hl:vs.length<=7000000000000)(hk:∀U V w' L',RQ0 w0 w' O rb tb rest a0 (vs++[x]) es A c (.slice U (vs.length+1) V) Y T4 T5 a1 a2 a3 a6 L' R2->K (.slice U (vs.length+1) V) w'):AppV Eg #[159,159] ty (.slice B vs.length d) (.slice (some ⟨nb,0,none⟩) 1 1) w K:=by
 refine h.rows.app 0 rfl qv9 strI strZ Jk rfl (by decide +kernel) h.mem h.all Js rfl (by rw[qa Z];rfl) Oo ?_;intro U V w' L' hm hR W;refine hk U V w' L' (h.grow hm ?_ W);rw[AJ];exact hR
theorem RQ0.app5{x:DV}{d:DX}(h:RQ0 w0 w O rb tb rest a0 vs es A c X (.slice B es.length d) T4 T5 a1 a2 a3 a6 L R2)(Z:w.heap[nb]?=some (.cells #[.string x] 9))(hl:es.length<=7000000000000)(hk:∀U V w' L',RQ0 w0 w' O rb tb rest a0 vs (es++[x]) A c X (.slice U (es.length+1) V) T4 T5 a1 a2 a3 a6 L' R2->K (.slice U (es.length+1) V) w'):AppV Eg #[159,159] ty (.slice B es.length d) (.slice (some ⟨nb,0,none⟩) 1 1) w K:=by
 refine h.rows.app 1 rfl qv9 strI strZ Jk rfl (by decide +kernel) h.mem h.all Js rfl (by rw[qa Z];rfl) Oo ?_;intro U V w' L' hm hR W;refine hk U V w' L' (h.grow hm ?_ W);rw[AJ];exact hR
theorem RQ0.st4{n:Nat}{K:Ec}(h:RQ0 w0 w O rb tb rest a0 vs es A c (.slice B n d) Y T4 Y a1 a2 a3 a6 L R2)(V:∀w',RQ w0 w' O rb tb rest a0 vs es R2->K w'):StoreV w tb 4 (.slice B n d) K:=
 qfv h.mem h.tg (by simp[tagC]) rfl λw' L' W Z U=>V w' (h.tag W Z U)
theorem RQ0.st5{n:Nat}{K:Ec}(h:RQ0 w0 w O rb tb rest a0 vs es A c X (.slice B n d) X T5 a1 a2 a3 a6 L R2)(V:∀w',RQ w0 w' O rb tb rest a0 vs es R2->K w'):StoreV w tb 5 (.slice B n d) K:=
 qfv h.mem h.tg (by simp[tagC]) rfl λw' L' W Z U=>V w' (h.tag W Z U)
end
def qfx(lo hi:Nat)(U:Bool):List DV->Bool
 | []=>false
 | x::_=>decide (lo<=x.size/\x.size<=hi)&&(bif U then digA x else letA x)
theorem qb9{x:DV}{xs:List DV}{vs es:List DV}(h:RQ w0 w O rb tb (x::xs) a0 vs es R2):
  Gv Eg 355 [pp rb] w λv w'=>v=.string x/\RQ w0 w' O rb tb xs a0 vs es R2:=by
 refine ze Tryz.func355 Tryz.ntmps355 ?_;refine h.ldr ?_;intro A c hS hc;(conv=>whnf);refine ElemV.sl hS rfl 0 rfl Js ?_;intro b off W;(conv=>whnf);refine LoadV.cell0 W (zw ?_);obtain⟨A,c,X,Y,a1,a2,a3,a6,L,h⟩:=h;refine LoadV.own (h.mem.get h.rd) rfl (zw ?_);obtain⟨g,cur,off,rfl,hg,g1,g2,g3,g4⟩:=h.sl Js;refine V.SliceV.tailA rfl rfl h.hc ?_;intro A' c' Z aa;(conv=>whnf);refine qfv h.mem h.rd (show 0<1 by omega) rfl ?_;intro w2 L2 hm hr U;(conv=>whnf);refine⟨rfl,A',c',X,Y,a1,a2,a3,a6,L2,hm,hr,U _ h.tg (λe=>h.ne e.symm),h.rows.keep λy hy hO=>U y hy λe=>hO (e ▸ h.hrb),λad=>?_,aa,h.hrb,h.htb,h.ne,λg' ae=>?_,λy hy=>h.small y (zmc hy)⟩
 ·refine⟨g,cur,off+1,Z (by simpa using ad),hg,g1,g2,U _ g3 g1,λj y hj=>?_⟩;have:=g4 (j+1) y (by simpa using hj)
  rwa[show off+1+j=off+(j+1)by omega]
 ·by_cases e:g'=rb
  ·subst e;exact⟨_,hr⟩
  ·obtain⟨o,ho⟩:=h.all g' ae;exact⟨o,U _ ho e⟩
theorem qjo{rest:List DV}{vs es:List DV}(lo hi:Nat)(U:Bool)(h:RQ w0 w O rb tb rest a0 vs es R2):
  Gv Eg 354 [pp rb,ii lo,ii hi,.bool U] w λv w'=>v=.bool (qfx lo hi U rest)/\RQ w0 w' O rb tb rest a0 vs es R2:=by
 refine ze Tryz.func354 Tryz.ntmps354 ?_;refine h.ldr ?_;intro A c W Z;(conv=>whnf);cases rest with
 | nil=>
  refine zC (λ_=>zu ?_) (λ_=>zu ?_)
  ·exact⟨rfl,h⟩
  ·exact absurd rfl Oa
 | cons x xs=>
  have hx:=h.small x mh;simp only[AC]at Z|-;refine zv ?_;refine h.ldr ?_;intro A c W Z;refine zu ?_;refine ElemV.sl W rfl 0 rfl Js ?_;intro b off V;refine zu ?_;refine LoadV.cell0 V (zw ?_);refine zt ?_;refine zC (λ_=>zu ?_) (λ_=>zu ?_)
  ·have:¬(lo<=x.size/\x.size<=hi):=λe=>by simp only[Ch]at *;omega
   exact⟨by rw[qfx,AM this];rfl,h⟩
  ·refine h.ldr ?_;intro A c W Z;refine zu ?_;refine ElemV.sl W rfl 0 rfl Js ?_;intro b off V;refine zu ?_;refine LoadV.cell0 V (zw ?_);refine zt ?_;refine zC (λ_=>zw ?_) (λ_=>zw ?_)
   ·have:¬(lo<=x.size/\x.size<=hi):=λe=>by simp only[Ch]at *;omega
    exact⟨by rw[qfx,AM this];rfl,h⟩
   ·have aa:lo<=x.size/\x.size<=hi:=by simp only[Ch]at *;omega
    have em:qfx lo hi U (x::xs)=bif U then digA x else letA x:=by rw[qfx,AE aa,CH]
    rw[em];cases U
    all_goals
     refine zu ?_;refine h.ldr ?_;intro A c W Z;(conv=>whnf);refine ElemV.sl W rfl 0 rfl Js ?_;intro b off V;(conv=>whnf);refine LoadV.cell0 V (zw ?_)
    ·refine zcv (ql8 x Oo w) ?_;rintro v w' ⟨rfl,rfl⟩;(conv=>whnf);exact⟨rfl,h⟩
    ·refine zcv (qf4 x Oo w) ?_;rintro v w' ⟨rfl,rfl⟩;(conv=>whnf);exact⟨rfl,h⟩
theorem qc4(lo hi:Nat)(x:DV)(U:List DV):qfx lo hi false (x::U)=qaa x lo hi true:=by
 have:letA x=x.data.toList.all (alnB true):=by
  unfold letA
  congr 1
  funext c
  simp[alnB]
 rw[qfx,qaa,cond_false,this,Bool.and_comm]
theorem qu3{rest:List DV}{vs es:List DV}(h:RQ w0 w O rb tb rest a0 vs es []):
  Gv Eg 353 [pp rb,pp tb] w λv w'=>(qe3 rest=none/\v=.bool false/\Ext w0 w')\/
   ∃W b0,qe3 rest=some W/\v=.bool true/\2<=b0.size/\RQ w0 w' O rb tb W b0 vs es []:=by
 refine ze Tryz.func353 Tryz.ntmps353 ?_;refine zcv (qjo 2 3 false h) ?_;rintro v w1 ⟨rfl,h1⟩;(conv=>whnf);cases q1:qfx 2 3 false rest
 ·refine zu ?_;refine zcv (qjo 4 8 false h1) ?_;rintro v w2 ⟨rfl,h2⟩;(conv=>whnf);cases q2:qfx 4 8 false rest
  ·refine zu ?_;refine .inl ⟨?_,rfl,h2.ext⟩;cases rest with
   | nil=>rfl
   | cons x V=>
    rw[qc4]at q1 q2;rw[qe3,Aa];intro hm;simp[qaa]at hm q1 q2;obtain⟨ha,hb⟩:=hm;have:=q1 ha;have:=q2 ha;omega
  ·obtain⟨x,V,rfl⟩:∃x V,rest=x::V:=by
    cases rest with
    | nil=>cases q2
    | cons x V=>exact⟨x,V,rfl⟩
   rw[qc4]at q2;simp[qaa]at q2;refine zu ?_;refine zcv (qb9 h2) ?_;rintro v w3 ⟨rfl,h3⟩;(conv=>whnf);refine h3.st0 x ?_;intro w4 h4;(conv=>whnf);refine .inr ⟨V,x,?_,rfl,by omega,h4⟩;rw[qe3,Ad (by simp[qaa];exact⟨q2.1,by omega,by omega⟩),Ad Oo]
 ·obtain⟨x,V,rfl⟩:∃x V,rest=x::V:=by
   cases rest with
   | nil=>cases q1
   | cons x V=>exact⟨x,V,rfl⟩
  rw[qc4]at q1;simp[qaa]at q1;have hL:qe3 (x::V)=some (qfj 3 V):=by rw[qe3,Ad (by simp[qaa];exact⟨q1.1,by omega,by omega⟩),Aa Oo]
  rw[hL];refine zu ?_;refine zcv (qb9 h1) ?_;rintro v w3 ⟨rfl,h3⟩;(conv=>whnf);refine h3.st0 x ?_;intro w4 h4;(conv=>whnf);refine qk (λy:List DV×List DV×oA×Nat=>[(0,pp rb),(1,pp tb),(5,.slice y.2.2.1 y.1.length y.2.2.2)])
   (λy w5=>RQ w0 w5 O rb tb y.2.1 x vs es [(y.1.map Value.string,.slice y.2.2.1 y.1.length y.2.2.2)]/\y.1.length<=3/\(∀z∈y.1,z.size<=3)/\qfj (3-y.1.length) y.2.1=qfj 3 V)
   (λy=>3-y.1.length) ([],V,none,0) fq ⟨h4.nilrow,by simp,by simp,rfl⟩ ?_
  rintro⟨l,Z,B,d⟩ w5 af ⟨h5,hl,hz,e5⟩;simp only at h5 hl hz e5;dsimp only;(conv=>whnf);refine zC (λ_=>zu ?_) (λ_=>zu ?_)
  ·have ad:l.length<3:=by omega
   obtain⟨m,hm⟩:∃m,3-l.length=m+1:=⟨2-l.length,by omega⟩
   rw[hm]at e5;refine zcv (qjo 3 3 false h5) ?_;rintro v w6 ⟨rfl,h6⟩;cases q3:qfx 3 3 false Z
   ·have e6:qfj 3 V=Z:=by
     cases Z with
     | nil=>rw[<-e5];rfl
     | cons y ys=>
      rw[qc4]at q3;rw[<-e5,qfj,Aa (by rw[q3];simp)]
    rw[e6];refine zu ?_;refine zcv (qgm l B d w6 h6.rowL (λz U=>by have:=hz z U;omega) Oo) ?_;rintro v w7 ⟨rfl,aa⟩;have h7:=h6.call aa;(conv=>whnf);refine h7.st Js _ ?_;intro w8 h8;(conv=>whnf);exact .inr ⟨Z,x,rfl,rfl,by omega,h8.cut⟩
   ·obtain⟨y,ys,rfl⟩:∃y ys,Z=y::ys:=by
     cases Z with
     | nil=>cases q3
     | cons y ys=>exact⟨y,ys,rfl⟩
    rw[qc4]at q3;rw[qfj,Ad q3]at e5;simp[qaa]at q3;refine zu ?_;refine zcv (qb9 h6) ?_;rintro v w7 ⟨rfl,h7⟩;(conv=>whnf);refine NewV.rq h7 λnb w8 h8 ae=>zw ?_;refine h8.appL ae Oo ?_;intro B' d' w9 h9;(conv=>whnf);refine⟨(l++[y],ys,B',d'),⟨rfl,rfl,by simp only[zla];rfl,trivial⟩,⟨h9,by simp;omega,?_,?_⟩,by simp;omega⟩
    ·intro z U
     rcases Bc.1 U with U | U
     ·exact hz z U
     ·obtain rfl:=Ak.1 U;omega
    ·simp only[zla,BC];rw[show 3-(l.length+1)=m by omega];exact e5
  ·have ad:l.length=3:=by omega
   rw[ad]at e5;have e6:qfj 3 V=Z:=by rw[<-e5];rfl
   rw[e6];refine zcv (qgm l B d w5 h5.rowL (λz U=>by have:=hz z U;omega) Oo) ?_;rintro v w7 ⟨rfl,aa⟩;have h7:=h5.call aa;(conv=>whnf);refine h7.st Js _ ?_;intro w8 h8;(conv=>whnf);exact .inr ⟨Z,x,rfl,rfl,by omega,h8.cut⟩
theorem q0q{rest:List DV}{vs es:List DV}(h:RQ w0 w O rb tb rest a0 vs es [])(hn:rest.length<=1000000):
  Gv Eg 359 [pp rb,pp tb] w λv w'=>v=.bool (decide (rest.tail≠[])&&rest.tail.all qkj)/\RQ w0 w' O rb tb rest a0 vs es []:=by
 refine ze Tryz.func359 Tryz.ntmps359 ?_;refine h.ldr ?_;intro A c hS hc;(conv=>whnf);refine zcv (qgm rest A c w hS h.small hn) ?_;rintro v w1 ⟨rfl,Z⟩;have h1:=h.call Z;(conv=>whnf);refine h1.st Js _ ?_;intro w2 h2;(conv=>whnf);refine h2.ldr ?_;intro A2 c2 ae af;(conv=>whnf);refine zC (λ_=>zw ?_) (λ_=>zw ?_)
 ·have:rest.tail=[]:=Dl.1 (by rw[C9];omega);rw[this];exact⟨rfl,h2⟩
 ·have ht:rest.tail≠[]:=λe=>by have:=Ae List.length e;rw[C9]at this;simp at this;omega
  rw[AE ht,CH];refine qk (λi:Nat=>[(0,pp rb),(1,pp tb),(5,ii (i+1:Nat))])
   (λi w3=>RQ w0 w3 O rb tb rest a0 vs es []/\i<=rest.tail.length/\(rest.tail.take i).all qkj=true)
   (λi=>rest.tail.length-i) 0 fq ⟨h2,by simp,rfl⟩ ?_
  rintro i w3 ag ⟨U,hi,ha⟩;rw[C9]at hi|-;(conv=>whnf);refine U.ldr ?_;intro A3 c3 ah ai;(conv=>whnf);refine zC (λ_=>zw ?_) (λ_=>zw ?_)
  ·refine U.ldr ?_;intro A4 c4 aa aj;(conv=>whnf);have V:i+1<rest.length:=by omega
   have W:i<rest.tail.length:=by rw[C9];omega
   have hx:=U.small _ (AH V);have eg:rest.tail[i]=rest[i+1]:=by rw[List.getElem_tail]
   refine ElemV.sl aa rfl (i+1) rfl V ?_;intro b off ad;(conv=>whnf);refine LoadV.cell0 ad (zw ?_);refine zcv (qhy _ 1 8 Oo w3) ?_;rintro v w4 ⟨rfl,rfl⟩;cases q:qaa rest[i+1] 1 8 false
   ·refine zu ?_;refine⟨?_,U⟩;have:rest.tail.all qkj=false:=by
     rw[CX];exact⟨_,AH W,by rw[eg,qkj,q];simp⟩
    rw[this]
   ·refine zu ?_;refine⟨i+1,fq,⟨U,by first|omega|(rw[C9];omega),?_⟩,by first|omega|(rw[C9];omega)⟩;rw[AX W,Dh,ha,eg];simp[qkj,q]
  ·rw[Am (by rw[C9];omega)]at ha;rw[ha];exact⟨rfl,U⟩
def qgz(e:DV):DV:=lowS (e.extract 0 1)
def jnS(l:List DV):DV:=⟨(jn l).toArray⟩
theorem q9x{x:DV}{l:List DV}(U:x.size=1):1<=(jnS (x::l)).size/\qgz (jnS (x::l))=lowS x:=by
 obtain⟨⟨c⟩⟩:=x;have V:c.length=1:=U;obtain⟨b,rfl⟩:=List.length_eq_one_iff.1 V;refine⟨by show 1<=(jn _).toArray.size;simp[jn],?_⟩;unfold qgz
 congr 1
 have:(jnS (⟨⟨[b]⟩⟩::l)).extract 0 1=(⟨⟨[b]⟩⟩:DV):=by
  have h:=qpm (l:=[(jnS (⟨⟨[b]⟩⟩::l)).extract 0 1]) (m:=[⟨⟨[b]⟩⟩]) (by rw[AK,qpt];simp[jnS,jn])
  simpa using h
 exact this
theorem qp{v:DZ}(h:vals k=v):vals=upd vals k v:=by
 funext j
 by_cases e:j=k
 ·subst e;rw[qc1,h]
 ·rw[qa1 _ _ _ _ e]
theorem RQ.cell5{rest:List DV}{vs es:List DV}(h:RQ w0 w O rb tb rest a0 vs es R2):
  ∃A c,SlAt V.zeS 1 w A es/\w.cell? ⟨tb,5,none⟩=some (.slice A es.length c):=by
 obtain⟨A,c,X,Y,a1,a2,a3,a6,L,h⟩:=h;obtain⟨B,d,e⟩:=(h.rows.row 1 _ rfl).slice;simp only[AG]at e;subst e;exact⟨B,d,RowB.sl (h.rows.row 1 _ rfl) h.mem,by rw[qa (h.mem.get h.tg)];rfl⟩
theorem qr8{x:DV}{xs:List DV}{vs es:List DV}(h:RQ w0 w O rb tb (x::xs) a0 vs es [])(be:x.size=1)(ax:∀e∈es,1<=e.size)(hn:xs.length+es.length+1<=1000000):
  Gv Eg 358 [pp rb,pp tb] w λv w'=>Ext w0 w'/\
   (((xs.takeWhile extQ=[]\/∃e∈es,qgz e=lowS x)/\v=.bool false)\/
   (¬(xs.takeWhile extQ=[]\/∃e∈es,qgz e=lowS x)/\v=.bool true/\RQ w0 w' O rb tb (xs.dropWhile extQ) a0 vs (es++[jnS (x::xs.takeWhile extQ)]) [])):=by
 refine ze Tryz.func358 Tryz.ntmps358 ?_;refine zcv (qb9 h) ?_;rintro v w1 ⟨rfl,h1⟩;(conv=>whnf);refine NewV.rqrow h1 λnb w2 h2=>zw ?_;refine qk (λy:List DV×List DV×oA×Nat=>[(0,pp rb),(1,pp tb),(5,.slice y.2.2.1 (x::y.1).length y.2.2.2)])
  (λy w5=>RQ w0 w5 O rb tb y.2.1 a0 vs es [((x::y.1).map Value.string,.slice y.2.2.1 (x::y.1).length y.2.2.2)]/\xs=y.1++y.2.1/\y.1.all extQ=true)
  (λy=>y.2.1.length) ([],xs,some ⟨nb,0,none⟩,1) fq ⟨h2,rfl,rfl⟩ ?_
 rintro⟨pre,r5,B,d⟩ w5 ay ⟨h5,e5,a5⟩;simp only at h5 e5 a5;dsimp only;have am:xs.length=pre.length+r5.length:=by rw[e5];simp
 have tk:∀ys,r5=ys->(∀y zs,ys=y::zs->extQ y=false)->xs.takeWhile extQ=pre/\xs.dropWhile extQ=ys:=by
  rintro ys rfl az;have ha:=CJ.1 a5;rw[e5,List.takeWhile_append_of_pos ha,List.dropWhile_append_of_pos ha];cases r5 with
  | nil=>simp
  | cons y zs=>simp[az y zs rfl]
 (conv=>whnf);refine h5.ldr ?_;intro A c hS hc
 rcases r5 with _|⟨y,ys⟩
 case' cons=>
  simp only[AC]at hc am|-;(conv=>whnf);refine Tst.yes (AE Oo) (zu ?_);refine h5.ldr ?_;intro A c hS hc;refine zu ?_;refine ElemV.sl hS rfl 0 rfl Js ?_;intro b off an;refine zu ?_;refine LoadV.cell0 an (zu ?_);have hy:=h5.small y mh;refine zcv (qhy y 2 8 Oo w5) ?_;rintro v w6 ⟨rfl,rfl⟩;cases q:qaa y 2 8 false
  case' true=>
   refine zu ?_;refine zcv (qb9 h5) ?_;rintro v w7 ⟨rfl,h7⟩;(conv=>whnf);refine NewV.rq h7 λnb w8 h8 Z=>zw ?_;refine h8.appL Z Ys ?_;intro B' d' w9 h9;(conv=>whnf);exact⟨(pre++[y],ys,B',d'),⟨rfl,rfl,by simp only[zla,AC];rfl,trivial⟩,⟨h9,by rw[e5];simp,by rw[Dh,a5];simp[extQ,q]⟩,by simp⟩
  case' false=>
   obtain⟨t1,t2⟩:=tk _ rfl (λy' zs e=>by cases e;exact q);clear hy;obtain⟨r6,h5,t2⟩:∃r6,RQ w0 _ O rb tb r6 a0 vs es [((x::pre).map Value.string,.slice B (x::pre).length d)]/\xs.dropWhile extQ=r6:=⟨_,h5,t2⟩
   rw[t1,t2];clear tk hS an q;refine zu ?_
 case' nil=>
  (conv=>whnf);refine Tst.no (AM Js) (zu ?_);obtain⟨t1,t2⟩:=tk _ rfl (λy' zs e=>by cases e);obtain⟨r6,h5,t2⟩:∃r6,RQ w0 _ O rb tb r6 a0 vs es [((x::pre).map Value.string,.slice B (x::pre).length d)]/\xs.dropWhile extQ=r6:=⟨_,h5,t2⟩
  rw[t1,t2];clear tk hS
 all_goals
  have a4:=h.small x mh;have bf:pre.length<=xs.length:=by omega
  have a7:(x::pre).length=pre.length+1:=rfl;refine qk (λi:Nat=>[(0,pp rb),(1,pp tb),(5,.slice B (x::pre).length d),(7,ii i)])
   (λi w6=>RQ w0 w6 O rb tb r6 a0 vs es [((x::pre).map Value.string,.slice B (x::pre).length d)]/\i<=es.length/\∀(j:Nat) (hj:j<es.length),j<i->qgz es[j]≠lowS x)
   (λi=>es.length-i) 0 fq ⟨h5,by omega,λj hj h0=>by omega⟩ ?_
  rintro i w6 ay ⟨h6,hi,hd⟩;(conv=>whnf);obtain⟨EA,ec,ao,af⟩:=h6.cell5;refine LoadV.of af (zw ?_)
  (repeat' refine zC (λ_=>zw ?_) (λ_=>zw ?_))
  ·have aa:i<es.length:=by omega
   have bg:=ax _ (AH aa);obtain⟨eb,aq,rfl,ag⟩:=ao.at_ (λe=>by rw[e]at aa;simp at aa);have ag:=ag i _ (zge aa);obtain⟨lb,ar,e9,ah⟩:=h6.rowL.at_ Js;subst e9;have ah:=ah 0 x rfl;refine DrawV.free rfl Jk (zw ?_);(iterate 3 (refine zd ?_));refine zf ?_ (by intro W hd;(conv=>whnf);refine LoadV.of (Ext.cell (Ext.trans (Ext.drew xr) hd) af) ?_;(conv=>whnf);exact xq);refine zd ?_;refine zf ?_ (by intro W hd;(conv=>whnf);refine⟨⟨eb,aq,i,rfl,by omega,by omega,?_⟩⟩;exact xq);refine zf ?_ (by intro W hd;(conv=>whnf);refine LoadV.of (Ext.cell (Ext.trans (Ext.drew xr) hd) (ag 0 _ rfl)) ?_;(conv=>whnf);exact xq);refine zsd (.string (es[i].extract 0 1)) (λW hd=>zw ?_) (zw ?_)
   ·refine⟨0,1,rfl,rfl,by omega,by omega,?_⟩;(conv=>whnf);exact xq
   refine zsd (.string (qgz es[i])) (λW hd=>zw ?_) (zw ?_)
   ·refine zcv (qbf (es[i].extract 0 1) (by rw[BM];omega) W) ?_;rintro v w7 ⟨rfl,ad⟩;exact⟨ad,rfl⟩
   refine zd ?_;refine zf ?_ (by intro W hd;(conv=>whnf);refine⟨⟨lb,ar,0,rfl,by omega,by omega,?_⟩⟩;exact xq);refine zf ?_ (by intro W hd;(conv=>whnf);refine LoadV.of (Ext.cell (Ext.trans (Ext.drew xr) hd) (ah 0 _ rfl)) ?_;(conv=>whnf);exact xq);refine zsd (.string (lowS x)) (λW hd=>zw ?_) (zw ?_)
   ·refine zcv (qbf x Oo W) ?_;rintro v w7 ⟨rfl,ad⟩;exact⟨ad,rfl⟩
   refine zd ?_;intro W a8;have h7:=h6.drew.call a8;(conv=>whnf);cases q:seq (qgz es[i]) (lowS x)
   ·refine zu ?_;refine⟨i+1,fq,⟨h7,by omega,λj hj bh=>?_⟩,by omega⟩
    by_cases e:j=i
    ·subst e;intro e';rw[qaf.2 e']at q;cases q
    ·exact hd j hj Oo
   ·refine zu ?_;exact⟨h7.ext,.inl ⟨.inr ⟨_,AH aa,qaf.1 q⟩,rfl⟩⟩
  ·have a9:¬ ∃e∈es,qgz e=lowS x:=by
    rintro⟨e,he,h9⟩;obtain⟨j,hj,rfl⟩:=BY.1 he;exact hd j hj Oo h9
   obtain⟨A,c,X,Y,a1,a2,a3,a6,L,h6⟩:=h6;obtain⟨EA,ec,e⟩:=(h6.rows.row 1 _ rfl).slice;simp only[AG]at e;subst e;clear ao af;obtain⟨J,hJ⟩:∃J,J=jnS (x::pre):=⟨_,rfl⟩
   obtain⟨rr,au⟩:∃rr:List (Ee×DZ),rr=[((x::pre).map Value.string,.slice B (x::pre).length d)]:=⟨_,rfl⟩
   have ba:∀z∈x::pre,z.size<=1000000:=λz hz=>by
    rcases AB.1 hz with rfl|hz
    ·exact a4
    ·exact h.small z (zmc (by rw[e5];exact Aj _ hz))
   rw[<-au]at h6;rw[<-hJ];refine DrawV.gen (λS vals w=>bif S 11 then(S 4=true/\S 6=true/\S 7=true/\S 8=true/\RQ w0 w O rb tb r6 a0 vs (es++[J]) rr)
    else bif S 8 then(S 4=true/\S 6=true/\S 7=true/\∃B' d' L',vals 8=.slice B' (es.length+1) d'/\RQ0 w0 w O rb tb r6 a0 vs (es++[J]) A c X (.slice B' (es.length+1) d') X (.slice EA es.length ec) a1 a2 a3 a6 L' rr)
    else bif S 7 then(S 6=true/\∃nb,vals 7=.slice (some ⟨nb,0,none⟩) 1 1/\w.heap[nb]?=some (.cells #[.string J] 9)/\RQ0 w0 w O rb tb r6 a0 vs es A c X (.slice EA es.length ec) X (.slice EA es.length ec) a1 a2 a3 a6 L rr)
    else RQ0 w0 w O rb tb r6 a0 vs es A c X (.slice EA es.length ec) X (.slice EA es.length ec) a1 a2 a3 a6 L rr) rfl Jk (λvals=>h6.call xr.drew) ?_
   (conv=>whnf);(iterate 4 (refine zg ?_))
   ·
    refine StepG.of (.slice EA es.length ec) (λS vals W hk hp U=>?_) (zw ?_)
    ·dsimp only at U;cases V:S 11
     ·rw[V]at U;cases h8:S 8
      ·rw[h8]at U;cases h7:S 7
       ·rw[h7]at U;(conv=>whnf);refine LoadV.own (U.mem.get U.tg) rfl (zw ?_);refine⟨rfl,?_⟩;show bif S 11 then _ else bif S 8 then _ else bif S 7 then _ else _;rw[V,h8,h7];exact U
       ·rw[h7]at U;obtain⟨i6,nb,e7,Z,hQ⟩:=U;(conv=>whnf);refine LoadV.own (hQ.mem.get hQ.tg) rfl (zw ?_);refine⟨rfl,?_⟩;show bif S 11 then _ else bif S 8 then _ else bif S 7 then _ else _;rw[V,h8,h7];exact⟨i6,nb,e7,Z,hQ⟩
      ·rw[h8]at U;have:=U.1;rw[hk]at this;cases this
     ·rw[V]at U;have:=U.1;rw[hk]at this;cases this
    refine zg ?_;refine StepG.of (.string J) (λS vals W hk hp U=>?_) (zw ?_)
    ·dsimp only at U;cases V:S 11
     ·rw[V]at U;cases h8:S 8
      ·rw[h8]at U;cases h7:S 7
       ·rw[h7]at U;(conv=>whnf);have av:=U;rw[au]at av;refine zcv (qgm (x::pre) B d W av.rowL ba Ys) ?_;rintro v w7 ⟨rfl,ad⟩;refine⟨by rw[hJ];rfl,?_⟩;show bif S 11 then _ else bif S 8 then _ else bif S 7 then _ else _;rw[V,h8,h7];exact U.call ad
       ·rw[h7]at U;have:=U.1;rw[hk]at this;cases this
      ·rw[h8]at U;have:=U.2.1;rw[hk]at this;cases this
     ·rw[V]at U;have:=U.2.1;rw[hk]at this;cases this
    refine StepG.any (λS vals W hk hp U=>?_) (zw ?_)
    ·dsimp only at U;have ai:=hp 6 Od;cases V:S 11
     ·rw[V]at U;cases h8:S 8
      ·rw[h8]at U;rw[hk]at U;(conv=>whnf);refine NewV.rq0 U λnb w8 bb Z=>zw ?_;refine⟨trivial,?_⟩;show bif S 11 then _ else bif S 8 then _ else bif true then _ else _;rw[V,h8];exact⟨ai,nb,rfl,Z,bb⟩
      ·rw[h8]at U;have:=U.2.2.1;rw[hk]at this;cases this
     ·rw[V]at U;have:=U.2.2.1;rw[hk]at this;cases this
    refine StepG.any (λS vals W hk hp U=>?_) (zw ?_)
    ·dsimp only at U;have aj:=hp 4 Od;have ae:=hp 7 Od;cases V:S 11
     ·rw[V]at U;rw[hk]at U;rw[ae]at U;obtain⟨i6,nb,e7,Z,hQ⟩:=U;rw[qp e7];(conv=>whnf);refine hQ.app5 Z Oo ?_;intro B' d' w8 L' ak;(conv=>whnf);refine⟨trivial,?_⟩;show bif S 11 then _ else bif true then _ else bif S 7 then _ else _;rw[V];exact⟨aj,i6,ae,B',d',L',rfl,ak⟩
     ·rw[V]at U;have:=U.2.2.2.1;rw[hk]at this;cases this
    refine zg ?_;refine zg ?_;refine StepG.of undef (λS vals W hk hp U=>?_) (zw ?_)
    ·dsimp only at U;have aw:=hp 8 Od;rw[hk]at U;rw[aw]at U;obtain⟨aj,ai,ae,B',d',L',e8,hQ⟩:=U;rw[qp e8];(conv=>whnf);refine hQ.st5 ?_;intro w8 ak;(conv=>whnf);exact⟨rfl,aj,ai,ae,aw,ak⟩
    intro vals W U;obtain⟨_,_,_,_,hQ⟩:=U;(conv=>whnf);refine⟨hQ.ext,?_⟩
    by_cases al:pre=[]
    ·subst al;exact .inl ⟨.inl rfl,rfl⟩
    ·have:0<pre.length:=Cw.2 al;exact .inr ⟨λh9=>h9.elim al a9,by rw[a7,AE Oo],hQ.cut⟩
theorem qyb(x:DV):seq (lowS x) ⟨#[120]⟩=qf6 x:=by
 rw[AU,qaf];obtain⟨⟨l⟩⟩:=x;unfold qf6 lowS;simp only[decide_eq_true_eq]
 constructor
 ·intro h;have h:l.map lowB=[120]:=by
   simp_all
  obtain⟨c,rfl⟩:∃c,l=[c]:=List.length_eq_one_iff.1 (by have:=Ae List.length h;simp_all);simp only[AK,BN,List.cons.injEq,and_true]at h;unfold lowB at h
  split at h
  all_goals grind
 ·rintro(h|h)
  ·cases h;rfl
  ·cases h;rfl
theorem qvk{x:DV}(h:qf6 x=true):varB x=false/\extS x=false:=by
 have U:x.size=1:=by
  unfold qf6 at h;simp at h
  rcases h with rfl|rfl<;>rfl
 grind [extS,varB,qaa]
section
variable {w0 w w':DU} {O:Ef} {rb tb:Nat} {rest:List DV} {a0:DV} {vs es:List DV} {R2:List (Ee×DZ)}
theorem RQ.cell4(h:RQ w0 w O rb tb rest a0 vs es R2):∃A c,SlAt V.zeS 1 w A vs/\w.cell? ⟨tb,4,none⟩=some (.slice A vs.length c):=by
 obtain⟨A,c,X,Y,a1,a2,a3,a6,L,h⟩:=h;obtain⟨B,d,e⟩:=(h.rows.row 0 _ rfl).slice;simp only[AG]at e;subst e;exact⟨B,d,RowB.sl (h.rows.row 0 _ rfl) h.mem,by rw[qa (h.mem.get h.tg)];rfl⟩
theorem RQ.ldA{K:Ee->Prop}(h:RQ w0 w O rb tb rest a0 vs es R2)(hk:∀U V W Z A n c A' n' c' s6,(∀u∈[Value.string U,.string V,.string W,.string Z,.slice A n c,.slice A' n' c',.string s6],u.oneCell'=true)->K [.string U,.string V,.string W,.string Z,.slice A n c,.slice A' n' c',.string s6]):LoadA w tb 0 7 K:=by
 obtain⟨A,c,X,Y,a1,a2,a3,a6,L,h⟩:=h;obtain⟨B,d,e⟩:=(h.rows.row 0 _ rfl).slice;obtain⟨B',d',e'⟩:=(h.rows.row 1 _ rfl).slice;simp only[AG]at e e';subst e e';refine⟨_,rfl,λi hi=>?_,hk a0 a1 a2 a3 B vs.length d B' es.length d' a6 (tag7 ⟨⟨_,_,_,rfl⟩,⟨_,_,_,rfl⟩⟩ a0 a1 a2 a3 a6)⟩;rw[qa (h.mem.get h.tg),An,As];rfl
end
theorem q4y(s:DV):(lowS s).size=s.size:=by
 show(s.data.toList.map lowB).toArray.size=s.size;simp
theorem V.later{A B:Prop}(h:A->B)(p:A):B:=h p
theorem qms(x:DV)(U:List DV):regB x=(qfx 2 2 false (x::U)||qfx 3 3 true (x::U)):=by
 rw[qc4,regB]
 congr 1
 by_cases V:x.size=3
 ·have e:digA x=(digN (gb x 0).toNat&&digN (gb x 1).toNat&&digN (gb x 2).toNat):=by
   unfold digA;have W:=qa7 x 0 Oo;have Z:=qa7 x 1 Oo
   simp_all[qa7,AN,Bool.and_assoc]
  grind [qfx]
 grind [qfx]
theorem q02(s:DV)(hs:s.size<=65536)(w:DU):
  Gv Eg 311 [.string s] w λv w'=>TagV (qbn s) v/\Ext w w':=by
 obtain⟨p1,p2⟩:=qom s;have p0:qbn s≠[]:=(by grind [qol])
 have ak:=qth s Oo;obtain⟨l,hl⟩:∃l,l=qbn s:=⟨_,rfl⟩
 rw[<-hl]at p1 p2 p0 ak|-;refine ze Tryz.func311 Tryz.ntmps311 ?_;refine znm (Mem.nil w) λrt w1 ai=>zw ?_;refine znm (Mem.nil w1) λtb w2 aw=>zw ?_;refine zcv (ak w2) ?_;rintro v w3 ⟨A,c,rfl,hR⟩;(conv=>whnf);have ce:tb<w2.heap.size:=aw.lt mh
 rcases hR.own.2 with⟨_,e2⟩|⟨g,cf,cur,e1,bp,hg,bq,_,br,bt⟩
 ·exact absurd (by grind) p0
 cases e1;rw[AZ]at bt br;have a9:=(aw.call hR.mem.ext).add hg (AI aw.ext.size bp) (by grind);refine znm a9 ?_;intro rb w4 ax;have bu:rb≠g/\rb≠tb:=by
  have:=ax.nodup
  simp_all
 have h4:RQ w1 w4 [rb,g,tb] rb tb l ⟨#[]⟩ [] [] []:=by
  refine⟨_,_,.slice none 0 0,.slice none 0 0,⟨#[]⟩,⟨#[]⟩,⟨#[]⟩,⟨#[]⟩,_,ax,Js,zmc (zmc mh),RowsP.nils _ _ _ _ Js,λ_=>⟨g,cur,0,rfl,by simp,Oo,λe=>?_,Js,λj x hj=>?_⟩,bq,by simp,by simp,bu.2,λk hk=>?_,(by grind)⟩
  ·omega
  ·have h9:(cur.toList.take l.length)[j]?=some (.string x):=by simp_all
   grind
  grind
 clear ax a9 hR hg;generalize hO:[rb,g,tb]=O at h4;(conv=>whnf);refine h4.ldr ?_;intro A c hS hc;obtain⟨x,xs,au⟩:∃x xs,l=x::xs:=by
  cases l<;>grind
 (conv=>whnf);refine ElemV.sl hS rfl 0 rfl (by grind) ?_;intro b off aj;(conv=>whnf);refine LoadV.cell0 aj ?_;have bv:l[0]'(by grind)=x:=by grind
 have cg:=p1 x (by rw[au];simp);rw[bv];(conv=>whnf);refine zcv (qbf x Oo w4) ?_;rintro v w5 ⟨rfl,ba⟩;have h5:=h4.call ba;clear aj hS hc h4 ba;(conv=>whnf);rw[qyb];obtain⟨F,hF⟩:∃F:List DV×List DV×DV->List (Nat×DZ),F=λ_=>[(2,pp rt),(4,pp tb),(5,pp rb)]:=⟨_,rfl⟩
 obtain⟨I,hI⟩:∃I:List DV×List DV×DV->DU->Prop,I=λy w6=>RQ w1 w6 O rb tb y.2.1 y.2.2 y.1 [] []/\tagR l=(qi1 (y.1.map lowS) y.2.1).bind (λr=>extN r.2.length r.1 r.2)/\(∀v∈y.1,4<=v.size/\v.size<=1000000)/\y.1.length+y.2.1.length<=l.length:=⟨_,rfl⟩
 obtain⟨mm,ay⟩:∃mm:List DV×List DV×DV->Nat,mm=λy=>y.2.1.length:=⟨_,rfl⟩
 apply V.later
 case h=>
  intro aa;cases q:qf6 x
  ·refine zv ?_;refine zcv (qu3 h5) ?_;have Z:tagR l=(qe3 l).bind qjs:=by
    rw[tagR,Aa (by rw[au];show ¬qf6 x=true;rw[q];simp)]
   rintro v w6 (⟨e2,rfl,bw⟩|⟨r1,b0,e2,rfl,ci,h6⟩)
   ·rw[e2]at Z;have ad:¬tagP l:=λh=>by obtain⟨l1,h1,_⟩:=h;rw[Z]at h1;cases h1
    refine zu ?_;refine StoreA.mem (ai.call bw) (i:=0) rfl (Ai 7) qet λw9 W=>zw ?_;refine qi (R:=λv w'=>TagV l v/\Ext w w') (zw ?_);refine zl W 0 ?_;exact⟨⟨_,_,_,_,_,_,_,qet,by rw[qd0 ad];rfl⟩,W.ext⟩
   rw[e2]at Z;have hb:seq b0 ⟨#[]⟩=false:=by rw[qtq];exact AM Oo
   refine zu ?_;refine h6.ld0 (zw ?_);rw[hb];refine zv ?_;have cj:=ql5 e2;refine zcv (qjo 4 4 false h6) ?_;rintro v w7 ⟨rfl,h7⟩;(conv=>whnf);cases q1:qfx 4 4 false r1
   case' false=>
    obtain⟨r2,h8,av,bz⟩:∃r2,RQ w1 w7 O rb tb r2 b0 [] [] []/\qee r1=r2/\r2.length<=r1.length:=by
     refine⟨r1,h7,?_,Ai _⟩;cases r1 with
     | nil=>rfl
     | cons y U=>
      rw[qc4]at q1;rw[qee,Aa (by rw[q1];simp)]
    clear h7 q1 h6;refine zv ?_
   case' true=>
    obtain⟨y,U,rfl⟩:∃y U,r1=y::U:=by
     cases r1 with
     | nil=>cases q1
     | cons y U=>exact⟨y,U,rfl⟩
    rw[qc4]at q1;refine zv ?_;refine zcv (qb9 h7) ?_;rintro v w8 ⟨rfl,h8⟩;(conv=>whnf);refine h8.st Js _ ?_;intro w7 h9;obtain⟨r2,h8,av,bz⟩:∃r2,RQ w1 w7 O rb tb r2 b0 [] [] []/\qee (y::U)=r2/\r2.length<=(y::U).length:=⟨U,h9,by rw[qee,Ad q1],by simp⟩
    clear h7 q1 h6 h9;conv=>whnf
   all_goals
    refine h8.ld0 (zw ?_);rw[hb];refine zv ?_;refine zcv (qjo 2 2 false h8) ?_;rintro v w9 ⟨rfl,h9⟩;(conv=>whnf);cases q2:qfx 2 2 false r2
    ·refine zv ?_;refine zcv (qjo 3 3 true h9) ?_;rintro v al ⟨rfl,ae⟩;cases q3:qfx 3 3 true r2
     ·have er:qda r2=r2:=by
       cases r2 with
       | nil=>rfl
       | cons y U=>rw[qda,Aa (by rw[qms,q2,q3];simp)]
      refine zu ?_;refine qk F I mm ([],r2,b0) (by rw[hF];exact fq) (by rw[hI];exact⟨ae,by rw[Z];show qjs _=_;rw[qjs,av,er];rfl,by simp,by simp only[BO];omega⟩) aa
     ·obtain⟨y,U,rfl⟩:∃y U,r2=y::U:=by
       cases r2 with
       | nil=>cases q3
       | cons y U=>exact⟨y,U,rfl⟩
      have er:qda (y::U)=U:=by rw[qda,Ad (by rw[qms,q3];simp)]
      refine zu ?_;refine zcv (qb9 ae) ?_;rintro v az ⟨rfl,ag⟩;(conv=>whnf);refine ag.st Js _ ?_;intro bb am;(conv=>whnf);refine qk F I mm ([],U,b0) (by rw[hF];exact fq) (by rw[hI];exact⟨am,by rw[Z];show qjs _=_;rw[qjs,av,er];rfl,by simp,by simp only[BO,AC]at *;omega⟩) aa
    ·obtain⟨y,U,rfl⟩:∃y U,r2=y::U:=by
      cases r2 with
      | nil=>cases q2
      | cons y U=>exact⟨y,U,rfl⟩
     have er:qda (y::U)=U:=by rw[qda,Ad (by rw[qms,q2];simp)]
     refine zu ?_;refine zcv (qb9 h9) ?_;rintro v az ⟨rfl,ag⟩;(conv=>whnf);refine ag.st Js _ ?_;intro bb am;(conv=>whnf);refine qk F I mm ([],U,b0) (by rw[hF];exact fq) (by rw[hI];exact⟨am,by rw[Z];show qjs _=_;rw[qjs,av,er];rfl,by simp,by simp only[BO,AC]at *;omega⟩) aa
  ·have Z:tagR l=(qi1 [] l).bind λr=>extN r.2.length r.1 r.2:=by
    rw[tagR,Ad (by rw[au];exact q),au,qi1,Aa (by rw[(qvk q).1];simp)];show _=extN (xs.length+1) [] (x::xs);rw[extN,Aa (by rw[(qvk q).2];simp)]
   have hb:seq ⟨#[]⟩ ⟨#[]⟩=true:=by rfl
   refine zv ?_;refine h5.ld0 (zw ?_);rw[hb];refine zv ?_;refine h5.ld0 (zw ?_);rw[hb];refine zv ?_;refine qk F I mm ([],l,⟨#[]⟩) (by rw[hF];exact fq) (by rw[hI];exact⟨h5,Z,by simp,by simp⟩) aa
 case p=>
  subst hF hI ay;rintro⟨vs,r3,b0⟩ w6 ck ⟨h6,Z,a4,af⟩;simp only at h6 Z a4 af;dsimp only;obtain⟨F,hF⟩:∃F:Nat×List DV×List DV->List (Nat×DZ),F=λ_=>[(2,pp rt),(4,pp tb),(5,pp rb)]:=⟨_,rfl⟩
  obtain⟨I,hI⟩:∃I:Nat×List DV×List DV->DU->Prop,I=λy w6=>RQ w1 w6 O rb tb y.2.1 b0 vs y.2.2 []/\tagR l=extN y.1 (vs.map lowS++y.2.2.map qgz) y.2.1/\y.2.1.length<=y.1/\(∀e∈y.2.2,1<=e.size)/\y.2.1.length+y.2.2.length<=l.length:=⟨_,rfl⟩
  obtain⟨mm,ay⟩:∃mm:Nat×List DV×List DV->Nat,mm=λy=>y.2.1.length:=⟨_,rfl⟩
  apply V.later
  case h=>
   intro aa;(conv=>whnf);refine h6.ldr ?_;intro A c hS hc;conv=>whnf
   rcases r3 with _|⟨y,U⟩
   ·refine Tst.no (AM Js) (zu ?_);refine qk F I mm (0,[],[]) (by rw[hF];exact fq) (by rw[hI];exact⟨h6,by rw[Z];rfl,Ai _,by simp,by simp⟩) aa
   ·simp only[AC]at hc af|-;refine Tst.yes (AE Oo) (zu ?_);refine h6.ldr ?_;intro A c hS hc;refine zu ?_;refine ElemV.sl hS rfl 0 rfl Js ?_;intro b off aj;refine zu ?_;refine LoadV.cell0 aj (zu ?_);have hy:=h6.small y mh;refine zcv (qnu y Oo w6) ?_;rintro v w7 ⟨rfl,rfl⟩;cases q:varB y
    ·rw[qi1,Aa (by rw[q];simp)]at Z;refine zu ?_;refine qk F I mm ((y::U).length,y::U,[]) (by rw[hF];exact fq) (by rw[hI];exact⟨h6,by rw[Z];simp,Ai _,by simp,by simp;omega⟩) aa
    ·rw[qi1,Ad q]at Z;have b1:4<=y.size:=by
      simp[varB,qaa]at q;omega
     refine zu ?_;refine zcv (qb9 h6) ?_;rintro v w8 ⟨rfl,h8⟩;(conv=>whnf);refine qk (λi:Nat=>[(2,pp rt),(4,pp tb),(5,pp rb),(7,.string y),(8,ii i)])
      (λi w9=>RQ w1 w9 O rb tb U b0 vs [] []/\i<=vs.length/\∀(j:Nat) (hj:j<vs.length),j<i->lowS vs[j]≠lowS y)
      (λi=>vs.length-i) 0 fq ⟨h8,by omega,λj hj h0=>by omega⟩ ?_
     rintro i w9 b4 ⟨h9,hi,hd⟩;(conv=>whnf);obtain⟨VA,vc,be,an⟩:=h9.cell4;refine LoadV.of an (zw ?_);refine zC (λ_=>zw ?_) (λ_=>zw ?_)
     ·have a5:i<vs.length:=by omega
      have cl:=a4 _ (AH a5);refine LoadV.of an (zw ?_);refine ElemV.sl be rfl i rfl a5 ?_;intro b2 bf ao;(conv=>whnf);refine LoadV.cell0 ao (zw ?_);refine zcv (qbf vs[i] Oo w9) ?_;rintro v al ⟨rfl,aq⟩;(conv=>whnf);refine zcv (qbf y Oo al) ?_;rintro v az ⟨rfl,bg⟩;have ag:=(h9.call aq).call bg;cases q2:seq (lowS vs[i]) (lowS y)
      ·(conv=>whnf);rw[q2];refine zv ?_;refine⟨i+1,fq,⟨ag,by omega,λj hj cm=>?_⟩,by omega⟩
       by_cases e:j=i
       ·subst e;intro e';rw[qaf.2 e']at q2;cases q2
       ·exact hd j hj Oo
      ·have b5:lowS y∈vs.map lowS:=AF.2 ⟨_,AH a5,qaf.1 q2⟩;rw[Ad b5]at Z;have ad:¬tagP l:=λh=>by obtain⟨l1,h1,_⟩:=h;rw[Z]at h1;cases h1
       (conv=>whnf);rw[q2];refine zv ?_;refine StoreA.mem (ai.call ag.ext) (i:=0) rfl (Ai 7) qet λw9 W=>zw ?_;refine qi (R:=λv w'=>TagV l v/\Ext w w') (zw ?_);refine zl W 0 ?_;exact⟨⟨_,_,_,_,_,_,_,qet,by rw[qd0 ad];rfl⟩,W.ext⟩
     ·have ad:lowS y∉vs.map lowS:=by
       intro h0;obtain⟨z,hz,e⟩:=AF.1 h0;obtain⟨j,hj,rfl⟩:=BY.1 hz;exact hd j hj Oo e
      rw[Aa ad]at Z;clear be an;obtain⟨A,c,X,Y,a1,a2,a3,a6,L,h9⟩:=h9;obtain⟨VA,vc,e⟩:=(h9.rows.row 0 _ rfl).slice;simp only[AG]at e;subst e;refine LoadV.own (h9.mem.get h9.tg) rfl (zw ?_);refine NewV.rq0 h9 λnb al ae b6=>zw ?_;refine ae.app4 b6 Oo ?_;intro B' d' az L' ag;(conv=>whnf);refine ag.st4 ?_;intro bb am;(conv=>whnf);refine⟨(vs++[y],U,b0),fq,⟨am,by rw[Z,AJ];rfl,?_,by simp;omega⟩,by simp⟩;intro v hv
      rcases Bc.1 hv with hv|hv
      ·exact a4 v hv
      ·obtain rfl:=Ak.1 hv;exact⟨b1,hy⟩
  case p=>
   subst hF hI ay;clear Z h6 af;rintro⟨k,r5,es⟩ w7 b4 ⟨h7,Z,hk,bh,af⟩;simp only at h7 Z hk bh af;dsimp only;have stop:∀z zs,r5=z::zs->extS z=false->tagR l=some r5:=by
    rintro z zs rfl hz;obtain⟨k,rfl⟩:∃k',k=k'+1:=⟨k-1,by grind⟩
    grind [extN]
   (conv=>whnf);refine h7.ldr ?_;intro A c hS hc;conv=>whnf
   rcases r5 with _|⟨y,U⟩
   ·have hR:tagR l=some []:=by rw[Z];cases k<;>rfl
    refine Tst.no Js (zu ?_);refine h7.ldr ?_;intro A2 c2 bi b7;(conv=>whnf);refine Tst.no Js (zu ?_);refine h7.ldr ?_;intro A3 c3 bj bk;(conv=>whnf);refine zC (λ_=>zw ?_) (λ_=>zw ?_)
    ·rename_i hh;exact absurd hh Js
    refine h7.ldA ?_;intro s0 s1 s2 s3 A4 n4 c4 A5 n5 c5 s6 ah;(conv=>whnf);refine StoreA.mem (ai.call h7.ext) (i:=0) rfl (Ai 7) ah λw9 W=>zw ?_;refine qi (R:=λv w'=>TagV l v/\Ext w w') (zw ?_);refine zl W 0 ?_;exact⟨⟨_,_,_,_,_,_,_,ah,by rw[qnc ⟨[],hR,by rw[qpq,Aa (by simp[seeB])]⟩];rfl⟩,W.ext⟩
   ·simp only[AC]at hc af hk|-;have hy:=h7.small y Js;refine Tst.yes Js (zu ?_);refine h7.ldr ?_;intro A c hS hc;refine zu ?_;refine ElemV.sl hS rfl 0 rfl Js ?_;intro b off aj;refine zu ?_;refine LoadV.cell0 aj (zu ?_);refine zcv (qbf y Oo w7) ?_;rintro v w8 ⟨rfl,b8⟩;have h8:=h7.call b8;refine zu ?_;rw[qyb];cases q:qf6 y
    ·refine zv ?_;refine h8.ldr ?_;intro A2 c2 bi b7;refine zu ?_;refine ElemV.sl bi rfl 0 rfl Js ?_;intro b2 bf ao;refine zu ?_;refine LoadV.cell0 ao (zu ?_);refine zcv (qhy y 1 1 Oo w8) ?_;rintro v w9 ⟨rfl,rfl⟩;cases q1:qaa y 1 1 false
     ·have hR:=stop y U rfl (by rw[extS,q1];rfl);have ad:¬tagP l:=λh=>by
       obtain⟨l1,h1,h2⟩:=h;rw[hR]at h1;cases h1;rw[qpq,Aa (by show ¬qf6 y=true;rw[q];simp)]at h2;cases h2
      refine zu ?_;refine h8.ldr ?_;intro A3 c3 bj bk;(conv=>whnf);refine Tst.yes Js (zu ?_);refine h8.ldr ?_;intro A4 c4 a7 an;refine zu ?_;refine ElemV.sl a7 rfl 0 rfl Js ?_;intro b3 bl ar;refine zu ?_;refine LoadV.cell0 ar (zu ?_);refine zcv (qbf y Oo _) ?_;rintro v w9 ⟨rfl,a8⟩;have h9:=h8.call a8;refine zu ?_;rw[qyb,q];refine zv ?_;refine h9.ldr ?_;intro A5 c5 cn cp;(conv=>whnf);refine Tst.yes Js (zw ?_);refine StoreA.mem (ai.call h9.ext) (i:=0) rfl (Ai 7) qet λw9 W=>zw ?_;refine qi (R:=λv w'=>TagV l v/\Ext w w') (zw ?_);refine zl W 0 ?_;exact⟨⟨_,_,_,_,_,_,_,qet,by rw[qd0 ad];rfl⟩,W.ext⟩
     ·refine zu ?_;have bm:y.size=1:=by grind [qaa]
      obtain⟨k,rfl⟩:∃k',k=k'+1:=⟨k-1,by omega⟩
      rw[extN,Ad (by rw[extS,q1,q];rfl)]at Z;refine zcv (qr8 h8 bm bh Oo) ?_;rintro v al ⟨aq,(⟨cd,rfl⟩|⟨b9,rfl,ae⟩)⟩
      ·have ad:¬tagP l:=λh=>by
        obtain⟨l1,h1,_⟩:=h
        grind
       refine zu ?_;refine StoreA.mem (ai.call aq) (i:=0) rfl (Ai 7) qet λw9 W=>zw ?_;refine qi (R:=λv w'=>TagV l v/\Ext w w') (zw ?_);refine zl W 0 ?_;exact⟨⟨_,_,_,_,_,_,_,qet,by rw[qd0 ad];rfl⟩,W.ext⟩
      ·have bn:¬(U.takeWhile extQ=[]\/lowS y∈vs.map lowS++es.map qgz):=by
        grind [q4y]
       rw[Aa bn]at Z;obtain⟨f1,f2⟩:=q9x (l:=U.takeWhile extQ) bm;have cq:(U.dropWhile extQ).length+1<=U.length+1:=by
        grind [List.dropWhile_sublist]
       refine zu ?_;refine⟨(k,U.dropWhile extQ,es++[jnS (y::U.takeWhile extQ)]),fq,⟨ae,?_,by grind,?_,by grind⟩,by grind⟩
       all_goals grind
    ·have hR:=stop y U rfl (qvk q).2;refine zv ?_;refine h8.ldr ?_;intro A3 c3 bj bk;(conv=>whnf);refine Tst.yes Js (zu ?_);refine h8.ldr ?_;intro A4 c4 a7 an;refine zu ?_;refine ElemV.sl a7 rfl 0 rfl Js ?_;intro b3 bl ar;refine zu ?_;refine LoadV.cell0 ar (zu ?_);refine zcv (qbf y Oo w8) ?_;rintro v w9 ⟨rfl,a8⟩;have h9:=h8.call a8;refine zu ?_;rw[qyb,q];refine zv ?_;refine zcv (q0q h9 (by grind)) ?_;rintro v al ⟨rfl,ae⟩;have bo:qpq (y::U)↔U≠[]/\U.all qkj=true:=by rw[qpq,Ad (by exact q)];rfl
     rw[List.tail_cons];cases q2:(decide (U≠[])&&U.all qkj)
     ·have ad:¬tagP l:=λh=>by
       obtain⟨l1,h1,h2⟩:=h
       grind
      refine zu ?_;refine StoreA.mem (ai.call ae.ext) (i:=0) rfl (Ai 7) qet λw9 W=>zw ?_;refine qi (R:=λv w'=>TagV l v/\Ext w w') (zw ?_);refine zl W 0 ?_;exact⟨⟨_,_,_,_,_,_,_,qet,by rw[qd0 ad];rfl⟩,W.ext⟩
     ·have cc:tagP l:=by
       simp only[AQ,decide_eq_true_eq]at q2;exact⟨_,hR,bo.2 q2⟩
      refine zu ?_;refine ae.ldA ?_;intro s0 s1 s2 s3 A4 n4 c4 A5 n5 c5 s6 ah;(conv=>whnf);refine StoreA.mem (ai.call ae.ext) (i:=0) rfl (Ai 7) ah λw9 W=>zw ?_;refine qi (R:=λv w'=>TagV l v/\Ext w w') (zw ?_);refine zl W 0 ?_;exact⟨⟨_,_,_,_,_,_,_,ah,by rw[qnc cc];rfl⟩,W.ext⟩
structure TM where
 kind:Int
 text:DV
 type:DV
 lang:DV
def encT(t:TM):Ee:=[ii t.kind,.string t.text,.string t.type,.string t.lang]
def qv(t:TM):DZ:=.agg #[ii t.kind,.string t.text,.string t.type,.string t.lang]
structure TermOk(t:TM):Prop where
 kind:InR .i64 t.kind
 text:t.text.size<=140737488355328
 type:t.type.size<=140737488355328
 lang:t.lang.size<=140737488355328
def qgd:DV:=⟨#[104,116,116,112,58,47,47,119,119,119,46,119,51,46,111,114,103,47,49,57,57,57,47,48,50,47,50,50,45,114,100,102,45,115,121,110,116,97,120,45,110,115,35,108,97,110,103,83,116,114,105,110,103]⟩
open Classical in
noncomputable def litE(t:TM):Nat:=
 if 65536<t.text.size then 2 else if scal t.text.data.toList=none then 40 else if iriE t.type≠0 then iriE t.type
 else if seq t.lang ⟨#[]⟩=false/\65536<t.lang.size then 2
 else if seq t.lang ⟨#[]⟩=false/\(tagE (qbn t.lang)≠0\/seq (lowS t.lang) t.lang=false)then 61
 else if(!seq t.lang ⟨#[]⟩)≠seq t.type qgd then 71 else 0
noncomputable def qap(t:TM):Nat:=
 if t.kind=1\/t.kind=2 then(if seq t.type ⟨#[]⟩=false\/seq t.lang ⟨#[]⟩=false then 70 else if t.kind=1 then iriE t.text else if 65536<t.text.size then 2 else labE t.text)
 else if t.kind=3 then litE t else 70
theorem qot(l:List DV):tagE l=0\/tagE l=61:=by
 grind [qnc,qd0]
theorem qade(a:Int)(b:Nat)(w:DU)(U:w.heap[b]?=some (.cells #[ii a,ii 61] 83)):
  Gv Eg 143 [.slice (some ⟨b,0,none⟩) 2 2] w λv w'=>v=ii (if a=0 then 61 else a)/\w'=w:=by
 refine ze Tryz.func143 Tryz.ntmps143 ?_;refine qk (λi:Nat=>[(3,ii 0),(6,.slice (some ⟨b,0,none⟩) 2 2),(7,ii 2),(8,ii i)]) (λi V=>i<=1/\(i=1->a=0)/\V=w) (λi=>2-i) 0 fq Js ?_;rintro i V W ⟨Z,h2,rfl⟩;obtain rfl|rfl:i=0\/i=1:=by omega
 ·refine zu ?_;refine ElemV.own1 0 rfl Oo (zw ?_);refine LoadV.of (by rw[qa U];rfl) (zw ?_);refine zC (λ_=>zu ?_) (λ_=>zu ?_)
  ·simp_all
  ·exact⟨1,fq,(by grind),by omega⟩
 ·refine zu ?_;refine ElemV.own1 1 rfl Oo (zw ?_);refine LoadV.of (by rw[qa U];rfl) (zu ?_)
  simp_all
theorem qu5(t:TM)(ht:TermOk t)(w:DU)(hM:MaxLenAt w):Gv Eg 70 [qv t] w λv w'=>v=ii (litE t)/\Ext w w':=by
 obtain⟨h1,h2,h3,h4⟩:=ht;refine ze Tryz.func70 Tryz.ntmps70 ?_;refine znm (Mem.nil w) λb w1 Z=>zw ?_
 (repeat'(first|refine zC (λ_=>zw ?_) (λ_=>zw ?_)|refine LoadV.mem (i:=0) Oa rfl rfl (zw ?_)))
 ·exact⟨by grind [litE],Z.ext⟩
 ·refine zcv (qrw t.text Oo w1) ?_;rintro v w2 ⟨⟨i,rfl,hi,al,am⟩,rfl⟩;have n1:¬65536<t.text.size:=by omega
  (conv=>whnf)
  (repeat'(first|refine zC (λ_=>zw ?_) (λ_=>zw ?_)|refine LoadV.mem (i:=0) Oa rfl rfl (zw ?_)))
  ·have hs:scal t.text.data.toList=none:=(by grind)
   exact⟨by grind [litE],Z.ext⟩
  ·have n2:¬scal t.text.data.toList=none:=(by grind)
   refine zcv (qj6 t.type Oo w2) ?_;rintro v w3 ⟨rfl,af⟩;have Z:=Z.call af;have eL:litE t=if iriE t.type≠0 then iriE t.type else if seq t.lang ⟨#[]⟩=false/\65536<t.lang.size then 2
     else if seq t.lang ⟨#[]⟩=false/\(tagE (qbn t.lang)≠0\/seq (lowS t.lang) t.lang=false)then 61 else if(!seq t.lang ⟨#[]⟩)≠seq t.type qgd then 71 else 0:=by grind [litE]
   rw[eL];conv=>whnf
   (repeat'(first|refine zp ?_|refine zC (λ_=>zw ?_) (λ_=>zw ?_)|refine LoadV.mem (i:=0) Oa rfl rfl (zw ?_)))
   ·exact⟨by simp_all,Z.ext⟩
   ·rw[Aa Oo];cases hl:seq t.lang ⟨#[]⟩
    ·(conv=>whnf)
     (repeat'(first|refine zp ?_|refine zC (λ_=>zw ?_) (λ_=>zw ?_)|refine LoadV.mem (i:=0) Oa rfl rfl (zw ?_)))
     ·exact⟨by grind,Z.ext⟩
     ·rw[Aa (show ¬(false=false/\65536<t.lang.size)by omega)];refine zcv (qahw t.lang Oo w3 (hM.ext Z.ext)) ?_;rintro v w4 ⟨⟨c0,c1,c2,c3,c4,c5,c6,hc,rfl⟩,ag⟩;have ah:=Z.call ag;obtain⟨E,hE⟩:∃E,E=tagE (qbn t.lang):=⟨_,rfl⟩
      have ad:=qot (qbn t.lang);rw[<-hE]at ad|-;(conv=>whnf);refine znm ah λtb w5 ai=>zw ?_;refine StoreA.mem ai (i:=0) rfl (Ai 7) hc λw6 aa=>zw ?_;have V:w6.cell? ⟨b,3,none⟩=some (.string t.lang):=by rw[qa (aa.get (zmg (i:=1) rfl))];rfl
      rcases ad with rfl|rfl
      ·refine DrawV.free rfl Jk (zw ?_);(iterate 4 (refine zd ?_));refine zf ?_ (by intro wd hd;refine zu ?_;refine LoadV.of (Ext.cell (Ext.trans (Ext.drew xr) hd) V) ?_;(conv=>whnf);exact xq);apply zsd
       ·intro wd hd;refine zu ?_;refine zcv (qfu t.lang Oo wd) ?_;rintro v w7 ⟨rfl,aj⟩;exact⟨aj,rfl⟩
       (conv=>whnf);refine zd ?_;refine zf ?_ (by intro wd hd;refine zu ?_;refine LoadV.of (Ext.cell (Ext.trans (Ext.drew xr) hd) V) ?_;(conv=>whnf);exact xq);refine zd ?_;refine zd ?_;intro wd hd;(conv=>whnf);have U:=aa.drew.call hd;have ae:wd.cell? ⟨b,3,none⟩=some (.string t.lang):=by rw[qa (U.get (zmg (i:=1) rfl))];rfl
       have ak:wd.cell? ⟨b,2,none⟩=some (.string t.type):=by rw[qa (U.get (zmg (i:=1) rfl))];rfl
       cases an:seq (lowS t.lang) t.lang
       ·rw[Ad ⟨rfl,.inr rfl⟩];refine zu ?_;refine znm U λab w8 W=>zw ?_;refine zcv (qade 0 ab w8 (W.get mh)) ?_;rintro v w9 ⟨rfl,rfl⟩;(conv=>whnf);exact⟨rfl,W.ext⟩
       ·rw[Aa Js];(conv=>whnf);refine zt ?_;refine LoadV.mem (i:=1) Oa rfl rfl (zw ?_);refine LoadV.mem (i:=1) Oa rfl rfl (zw ?_);refine zt ?_;show Tst ((!seq t.lang ⟨#[]⟩)==seq t.type qgd) _ _;rw[hl];cases ht:seq t.type qgd
        ·refine zu ?_;exact⟨rfl,U.ext⟩
        ·refine zu ?_;exact⟨rfl,U.ext⟩
      ·rw[Ad ⟨rfl,.inl Od⟩];refine DrawV.free rfl Jk (zw ?_);(iterate 10 (refine zd ?_));intro wd hd;(conv=>whnf);have U:=aa.drew.call hd;refine zv ?_;refine znm U λab w8 W=>zw ?_;refine zcv (qade 61 ab w8 (W.get mh)) ?_;rintro v w9 ⟨rfl,rfl⟩;(conv=>whnf);exact⟨rfl,W.ext⟩
    ·rw[Aa Js,Aa Js];(conv=>whnf);refine zt ?_;refine LoadV.mem (i:=0) Oa rfl rfl (zw ?_);refine LoadV.mem (i:=0) Oa rfl rfl (zw ?_);refine zt ?_;show Tst ((!seq t.lang ⟨#[]⟩)==seq t.type qgd) _ _;rw[hl];cases ht:seq t.type qgd
     ·refine zu ?_;exact⟨rfl,Z.ext⟩
     ·refine zu ?_;exact⟨rfl,Z.ext⟩
theorem qit(t:TM)(ht:TermOk t)(w:DU)(hM:MaxLenAt w)(hT:CellsAt w 4 0 qcb):Gv Eg 28 [qv t] w λv w'=>v=ii (qap t)/\Ext w w':=by
 have W:=λV (Z:Ext w V)=>qu5 t ht V (hM.ext Z)
 obtain⟨h1,h2,h3,h4⟩:=ht;refine ze Tryz.func28 Tryz.ntmps28 ?_;refine znm (Mem.nil w) λb V U=>zw ?_;have hA:(t.kind=1\/t.kind=2)->qap t=if seq t.type ⟨#[]⟩=false\/seq t.lang ⟨#[]⟩=false then 70 else if t.kind=1 then iriE t.text else if 65536<t.text.size then 2 else labE t.text:=(by grind [qap])
 have hB:¬(t.kind=1\/t.kind=2)->qap t=if t.kind=3 then litE t else 70:=(by grind [qap])
 (repeat'(first|refine zp ?_|refine zC (λ_=>zw ?_) (λ_=>zw ?_)|refine LoadV.mem (i:=0) Oa rfl rfl (zw ?_)))
 ·rw[hA (.inl Oa)];cases hy:seq t.type ⟨#[]⟩
  ·refine zu ?_;exact⟨by rfl,U.ext⟩
  ·(conv=>whnf);refine zt ?_;refine LoadV.mem (i:=0) Oa rfl rfl (zw ?_);refine zt ?_;cases hl:seq t.lang ⟨#[]⟩
   ·refine zu ?_;exact⟨by rfl,U.ext⟩
   ·rw[Aa Js,Ad Oa];(conv=>whnf);refine zt ?_;refine LoadV.mem (i:=0) Oa rfl rfl (zw ?_);refine zt ?_;refine LoadV.mem (i:=0) Oa rfl rfl (zw ?_);refine zcv (qj6 t.text Oo V) ?_;rintro v w2 ⟨rfl,Z⟩;(conv=>whnf);exact⟨rfl,U.ext.trans Z⟩
 ·rw[hA (.inr Oa)];cases hy:seq t.type ⟨#[]⟩
  ·refine zu ?_;exact⟨by rfl,U.ext⟩
  ·(conv=>whnf);refine zt ?_;refine LoadV.mem (i:=0) Oa rfl rfl (zw ?_);refine zt ?_;cases hl:seq t.lang ⟨#[]⟩
   ·refine zu ?_;exact⟨by rfl,U.ext⟩
   ·rw[Aa Js,Aa Oo];conv=>whnf
    (repeat'(first|refine zp ?_|refine zC (λ_=>zw ?_) (λ_=>zw ?_)|refine LoadV.mem (i:=0) Oa rfl rfl (zw ?_)))
    ·exact⟨by grind,U.ext⟩
    ·rw[Aa Oo];refine zcv (q4c t.text Oo V (hT.ext U.ext)) ?_;rintro v w2 ⟨rfl,rfl⟩;(conv=>whnf);exact⟨rfl,U.ext⟩
 ·rw[hB Oo,Ad Oa];refine zl U 0 ?_;refine zcv (W V U.ext) ?_;rintro v w2 ⟨rfl,Z⟩;(conv=>whnf);exact⟨rfl,U.ext.trans Z⟩
 ·exact⟨by simp_all,U.ext⟩
theorem qaaj(d:Bool)(r:Nat)(l:Ef):okT d (r::l)=((qeb r||decide (r=46))&&okT (decide (r=46)) l):=rfl
theorem qos(r0:Nat)(t:Ef)(A:oA)(c:Nat)(w:DU)(hA:SlAt zeI 1 w A ((r0::t).map Int.ofNat))(hl:t.length<=4000000000000):
  Gv Eg 309 [.slice A (t.length+1) c] w λv w'=>v=.bool (okT false t)/\Ext w w':=by
 refine ze Tryz.func309 Tryz.ntmps309 ?_;refine qk (λx:Nat×Bool=>[(0,.slice A (t.length+1) c),(3,ii (x.1+1:Nat))]) (λx w2=>x.1<=t.length/\okT false t=okT x.2 (t.drop x.1)/\(x.2=true->x.1<t.length)/\Ext w w2) (λx=>t.length-x.1) (0,false) fq ⟨by simp,rfl,by simp,xr⟩ ?_;rintro⟨i,d⟩ w2 ai ⟨h1,V,h3,Z⟩;simp only at h1 V h3;dsimp only;(conv=>whnf);refine zC (λ_=>zw ?_) (λ_=>zw ?_)
 ·have aa:i<t.length:=by omega
  have W:∀w' (_:Ext w w'),∃b off,A=some ⟨b,off,none⟩/\w'.cell? ⟨b,off+(i+1)*1,none⟩=some (ii t[i]):=λw' ae=>by
   obtain⟨b,off,e1,e2⟩:=(hA.ext ae).at_ Js;refine⟨b,off,e1,?_⟩;have:=e2 (i+1) (Int.ofNat t[i]) (by simp[aa]) 0 (ii t[i]) rfl
   simpa using this
  rw[Br aa,qaaj]at V;obtain⟨b,off,rfl,hc⟩:=W w2 Z;refine⟨b,off,i+1,rfl,by omega,by omega,?_⟩;(conv=>whnf);refine LoadV.of hc (zw ?_);refine zcv (qmq _ w2) ?_;rintro v w3 ⟨rfl,U⟩;have ad:qeb 46=false:=by decide
  cases hf:qeb t[i]
  ·rw[hf,D5]at V;refine zu ?_;refine⟨b,off,i+1,rfl,by omega,by omega,?_⟩;(conv=>whnf);obtain⟨b',ah,e1,af⟩:=W w3 (Z.trans U);cases e1;refine zv ?_;refine LoadV.of af (zw ?_)
   (repeat'(first|refine zp ?_|refine zC (λ_=>zw ?_) (λ_=>zw ?_)))
   ·refine⟨Ae Value.bool ?_,Z.trans U⟩;rw[V,AM Oo];rfl
   ·refine⟨Ae Value.bool ?_,Z.trans U⟩;rw[V,AE Oo,AN Oo];rfl
   ·refine⟨(i+1,true),fq,⟨by simp only;omega,?_,by simp only;omega,Z.trans U⟩,by simp only;omega⟩;rw[V,AE Oo,CH]
  ·have ag:t[i]≠46:=by intro e;rw[e]at hf;rw[show((46:Nat):Int)=46 from rfl,ad]at hf;cases hf
   rw[hf,Bool.true_or,CH,AM ag]at V;refine zu ?_;exact⟨(i+1,false),fq,⟨by simp only;omega,V,by simp,Z.trans U⟩,by simp only;omega⟩
 ·refine⟨Ae Value.bool ?_,Z⟩;have hi:i=t.length:=by omega
  rw[V,AN Oo];cases d with
  | false=>rfl
  | true=>have:=h3 rfl;omega
theorem qtg(s:DV)(hs:s.size<=4000000000000)(w:DU):
  Gv Eg 227 [.string s] w λv w'=>v=ii (labE s)/\Ext w w':=by
 have ag:=qv2 s hs w;have W:qcj s=false->labE s=60:=λh=>by rw[labE,Aa (by rw[h];simp)]
 have aa:qcj s=true->labE s=0:=λh=>by rw[labE,Ad h]
 refine ze Tryz.func227 Tryz.ntmps227 ?_;refine zcv (ag) ?_;rintro v w1 ⟨⟨hn,rfl⟩|⟨l,A,c,hl,rfl,hA,af⟩,he⟩
 ·have Z:qcj s=false:=by rw[qcj,hn]
  refine zu ?_;exact⟨by rw[W Z];rfl,he⟩
 ·have Z:qcj s=labL l:=by rw[qcj,hl]
  cases l with
  | nil=>
   simp only[BO];refine zu ?_;exact⟨by rw[W Z];rfl,he⟩
  | cons r0 t=>
   have Z:qcj s=(labB r0&&okT false t):=Z;have ad:∀w' (_:Ext w1 w'),∃b off,A=some ⟨b,off,none⟩/\w'.cell? ⟨b,off+0*1,none⟩=some (ii r0):=λw' ah=>by
    obtain⟨b,off,e1,e2⟩:=(hA.ext ah).at_ Js;exact⟨b,off,e1,by simpa using e2 0 (Int.ofNat r0) Js 0 (ii r0) rfl⟩
   obtain⟨b,off,rfl,hc⟩:=ad w1 xr;simp only[AC]at af|-;refine zu ?_;refine⟨b,off,0,rfl,by omega,by omega,?_⟩;refine zu ?_;refine LoadV.of hc (zu ?_);refine zcv (qg3 _ w1) ?_;rintro v w2 ⟨rfl,U⟩;cases hS:qg7 r0
   ·refine zu ?_;refine⟨b,off,0,rfl,by omega,by omega,?_⟩;refine zu ?_;obtain⟨b',aj,e1,ai⟩:=ad w2 U;cases e1;refine LoadV.of ai (zu ?_);refine zcv (qij _ w2) ?_;rintro v w3 ⟨rfl,rfl⟩;cases hD:digN r0
    ·have V:qcj s=false:=by rw[Z,labB,hS,hD];rfl
     refine zu ?_;exact⟨by rw[W V];rfl,he.trans U⟩
    ·have V:labB r0=true:=by rw[labB,hS,hD];rfl
     refine zu ?_;refine zcv (qos r0 t _ c w3 (hA.ext U) Oo) ?_;rintro v w4 ⟨rfl,ae⟩;have hx:=he.trans (U.trans ae);cases hO:okT false t
     ·have V:qcj s=false:=by rw[Z,hO,Dp]
      refine zu ?_;exact⟨by rw[W V];rfl,hx⟩
     ·have V:qcj s=true:=by rw[Z,V,hO];rfl
      refine zu ?_;exact⟨by rw[aa V];rfl,hx⟩
   ·have V:labB r0=true:=by rw[labB,hS];rfl
    refine zu ?_;refine zcv (qos r0 t _ c w2 (hA.ext U) Oo) ?_;rintro v w4 ⟨rfl,ae⟩;have hx:=he.trans (U.trans ae);cases hO:okT false t
    ·have V:qcj s=false:=by rw[Z,hO,Dp]
     refine zu ?_;exact⟨by rw[W V];rfl,hx⟩
    ·have V:qcj s=true:=by rw[Z,V,hO];rfl
     refine zu ?_;exact⟨by rw[aa V];rfl,hx⟩
theorem qss(s:DV):seq (lowS s) s=true↔∀i,i<s.size->¬(65<=(gb s i).toNat/\(gb s i).toNat<=90):=by
 rw[qaf]
 constructor
 ·intro h i hi Z;have e:=Ae (λb:DV=>b.data.toList[i]?) h;have U:i<s.data.toList.length:=by simpa using hi
  simp only[lowS,Ao]at e;rw[zge U]at e;have V:s.data.toList[i]=gb s i:=by rw[gb,Ah,zge U,Cd]
  rw[V]at e;have e:=Bb e;have:=qqd (gb s i) Z;rw[e]at this;omega
 ·intro h;have e:s.data.toList.map lowB=s.data.toList:=by
   apply D3 Js;intro i h1 W;rw[CA];have V:s.data.toList[i]=gb s i:=by rw[gb,Ah,zge W,Cd]
   rw[V];exact qqe _ (h i (by simpa using W))
  unfold lowS;rw[e]
theorem qnt(t:TM)(ht:TermOk t)(w:DU):Gv Eg 228 [qv t] w λv w'=>v=ii (litE t)/\Ext w w':=by
 obtain⟨h1,h2,h3,h4⟩:=ht;refine ze Tryz.func228 Tryz.ntmps228 ?_;refine znm (Mem.nil w) λb w1 U=>zw ?_
 (repeat'(first|((with_reducible refine zC (λ_=>?_) (λ_=>?_))<;>first|(exfalso;omega)|(conv=>whnf))|(refine LoadV.mem (i:=0) Oa rfl rfl ?_;(conv=>whnf))))
 ·exact⟨by rw[litE,Ad (show 65536<t.text.size by omega)];rfl,U.ext⟩
 ·have n1:¬65536<t.text.size:=by omega
  refine zcv (qkc t.text Oo w1) ?_;rintro v w2 ⟨⟨i,rfl,hi,ae,af⟩,ag⟩;have U:=U.call ag;conv=>whnf
  (repeat'(first|((with_reducible refine zC (λ_=>?_) (λ_=>?_))<;>first|(exfalso;omega)|(conv=>whnf))|(refine LoadV.mem (i:=0) Oa rfl rfl ?_;(conv=>whnf))))
  ·have hs:scal t.text.data.toList=none:=AD λh=>by have:=ae h;omega
   exact⟨by rw[litE,Aa n1,Ad hs];rfl,U.ext⟩
  ·have n2:¬scal t.text.data.toList=none:=λh=>by have:=af h;omega
   refine zcv (qf8 t.type Oo w2) ?_;rintro v w3 ⟨rfl,ah⟩;have U:=U.call ah;have eL:litE t=if iriE t.type≠0 then iriE t.type else if seq t.lang ⟨#[]⟩=false/\65536<t.lang.size then 2
     else if seq t.lang ⟨#[]⟩=false/\(tagE (qbn t.lang)≠0\/seq (lowS t.lang) t.lang=false)then 61 else if(!seq t.lang ⟨#[]⟩)≠seq t.type qgd then 71 else 0:=by rw[litE,Aa n1,Aa n2]
   rw[eL];conv=>whnf
   (repeat'(first|((with_reducible refine zC (λ_=>?_) (λ_=>?_))<;>first|(exfalso;omega)|(conv=>whnf))|((with_reducible refine zP ?_))|(refine LoadV.mem (i:=0) Oa rfl rfl ?_;(conv=>whnf))))
   ·exact⟨by rw[Ad Oo],U.ext⟩
   ·rw[Aa Oo];cases hl:seq t.lang ⟨#[]⟩
    ·(conv=>whnf)
     (repeat'(first|((with_reducible refine zU ?_);(conv=>whnf))|((with_reducible refine zC (λ_=>?_) (λ_=>?_))<;>first|(exfalso;omega)|(conv=>whnf))|(refine LoadV.mem (i:=0) Oa rfl rfl ?_;(conv=>whnf))))
     ·exact⟨by rw[Ad ⟨rfl,by omega⟩];rfl,U.ext⟩
     ·rw[Aa (show ¬(false=false/\65536<t.lang.size)by omega)];refine zcv (q02 t.lang Oo w3) ?_;rintro v w4 ⟨⟨c0,c1,c2,c3,c4,c5,c6,hc,rfl⟩,ai⟩;have aa:=U.call ai;obtain⟨E,hE⟩:∃E,E=tagE (qbn t.lang):=⟨_,rfl⟩
      have ad:=qot (qbn t.lang);rw[<-hE]at ad|-;conv=>whnf
      rcases ad with rfl|rfl
      ·refine zN (λ_=>?_);(conv=>whnf);have lg:∀w5,Ext w4 w5->w5.cell? ⟨b,3,none⟩=some (.string t.lang):=λw5 V=>by rw[qa ((aa.call V).get (zmg (i:=0) rfl))];rfl
       refine qk (λi:Nat=>[(1,pp b),(4,ii i)])
        (λi w5=>Ext w4 w5/\i<=t.lang.size/\∀j,j<i->¬(65<=(gb t.lang j).toNat/\(gb t.lang j).toNat<=90))
        (λi=>t.lang.size-i) 0 fq ⟨xr,by omega,λj h0=>by omega⟩ ?_
       rintro i w5 ak ⟨V,hi,hj⟩;have Z:=aa.call V;(conv=>whnf);refine zr Z 0 ?_
       (repeat'(first|(refine zA ?_;(conv=>whnf))|((with_reducible refine zT ?_);(conv=>whnf))|((with_reducible refine zU ?_);(conv=>whnf))|((with_reducible refine zC (λ_=>?_) (λ_=>?_))<;>first|(exfalso;omega)|(conv=>whnf))|((with_reducible refine zP ?_))|((with_reducible refine zX ?_);(conv=>whnf))|(refine LoadV.mem (i:=0) Oa rfl rfl ?_;(conv=>whnf))))
       ·have W:seq (lowS t.lang) t.lang=false:=CW.2 λh=>qss t.lang |>.1 h i Oo Oo
        exact⟨by rw[Ad ⟨rfl,.inr W⟩];rfl,Z.ext⟩
       ·refine⟨i+1,fq,⟨V,by omega,λj aj=>?_⟩,by omega⟩
        by_cases e:j=i
        ·subst e;omega
        ·exact hj j Oo
       ·refine⟨i+1,fq,⟨V,by omega,λj aj=>?_⟩,by omega⟩
        by_cases e:j=i
        ·subst e;omega
        ·exact hj j Oo
       ·have W:seq (lowS t.lang) t.lang=true:=qss t.lang |>.2 λj al=>hj j Oo
        rw[Aa (by rw[W];simp)];show Tst ((!seq t.lang ⟨#[]⟩)==seq t.type qgd) _ _;rw[hl];cases ht:seq t.type qgd
        ·(conv=>whnf);refine Tst.beqF ?_;refine zP ?_;refine zU ?_;(conv=>whnf);exact⟨rfl,Z.ext⟩
        ·(conv=>whnf);refine Tst.beqT ?_;refine zP ?_;refine zU ?_;(conv=>whnf);exact⟨rfl,Z.ext⟩
      ·(conv=>whnf);refine zY (λ_=>?_);(conv=>whnf);exact⟨by rw[Ad ⟨rfl,.inl Od⟩],aa.ext⟩
    ·rw[Aa Js,Aa Js];(conv=>whnf);refine zT ?_;(conv=>whnf);(iterate 2 (refine LoadV.mem (i:=0) Oa rfl rfl ?_;(conv=>whnf)));refine zP ?_;show Tst ((!seq t.lang ⟨#[]⟩)==seq t.type qgd) _ _;rw[hl];cases ht:seq t.type qgd
     ·(conv=>whnf);refine Tst.beqF ?_;refine zP ?_;refine zT ?_;(conv=>whnf);exact⟨rfl,U.ext⟩
     ·(conv=>whnf);refine Tst.beqT ?_;refine zP ?_;refine zT ?_;(conv=>whnf);exact⟨rfl,U.ext⟩
theorem qbp(t:TM)(ht:TermOk t)(w:DU):Gv Eg 148 [qv t] w λv w'=>v=ii (qap t)/\Ext w w':=by
 have V:=λW=>qnt t ht W
 obtain⟨h1,h2,h3,h4⟩:=ht;refine ze Tryz.func148 Tryz.ntmps148 ?_;refine znm (Mem.nil w) λb W U=>zw ?_;have hA:(t.kind=1\/t.kind=2)->qap t=if seq t.type ⟨#[]⟩=false\/seq t.lang ⟨#[]⟩=false then 70 else if t.kind=1 then iriE t.text else if 65536<t.text.size then 2 else labE t.text:=λh=>by rw[qap,Ad h]
 have hB:¬(t.kind=1\/t.kind=2)->qap t=if t.kind=3 then litE t else 70:=λh=>by rw[qap,Aa h]
 (repeat'(first|((with_reducible refine zC (λ_=>?_) (λ_=>?_))<;>first|(exfalso;omega)|(conv=>whnf))|((with_reducible refine zP ?_))|(refine LoadV.mem (i:=0) Oa rfl rfl ?_;(conv=>whnf))))
 ·rw[hA (.inl Oa)];cases hy:seq t.type ⟨#[]⟩
  ·(conv=>whnf);refine zU ?_;(conv=>whnf);(iterate 4 (refine zT ?_;(conv=>whnf)));exact⟨by rw[Ad (.inl rfl)];rfl,U.ext⟩
  ·(conv=>whnf);refine zT ?_;(conv=>whnf);refine zU ?_;(conv=>whnf);refine LoadV.mem (i:=0) Oa rfl rfl (zw ?_);(iterate 2 (refine zU ?_;(conv=>whnf)));refine zP ?_;cases hl:seq t.lang ⟨#[]⟩
   ·(conv=>whnf);refine zU ?_;(conv=>whnf);exact⟨by rw[Ad (.inr rfl)];rfl,U.ext⟩
   ·rw[Aa Js,Ad Oa];(conv=>whnf);refine zT ?_;(conv=>whnf);refine LoadV.mem (i:=0) Oa rfl rfl (zw ?_);refine zY (λ_=>?_);(conv=>whnf);refine LoadV.mem (i:=0) Oa rfl rfl (zw ?_);refine zcv (qf8 t.text Oo W) ?_;rintro v w2 ⟨rfl,Z⟩;(conv=>whnf);exact⟨rfl,U.ext.trans Z⟩
 ·rw[hA (.inr Oa)];cases hy:seq t.type ⟨#[]⟩
  ·(conv=>whnf);refine zU ?_;(conv=>whnf);(iterate 4 (refine zT ?_;(conv=>whnf)));exact⟨by rw[Ad (.inl rfl)];rfl,U.ext⟩
  ·(conv=>whnf);refine zT ?_;(conv=>whnf);refine zU ?_;(conv=>whnf);refine LoadV.mem (i:=0) Oa rfl rfl (zw ?_);(iterate 2 (refine zU ?_;(conv=>whnf)));refine zP ?_;cases hl:seq t.lang ⟨#[]⟩
   ·(conv=>whnf);refine zU ?_;(conv=>whnf);exact⟨by rw[Ad (.inr rfl)];rfl,U.ext⟩
   ·rw[Aa Js,Aa Oo];conv=>whnf
    (repeat'(first|((with_reducible refine zT ?_);(conv=>whnf))|((with_reducible refine zC (λ_=>?_) (λ_=>?_))<;>first|(exfalso;omega)|(conv=>whnf))|(refine LoadV.mem (i:=0) Oa rfl rfl ?_;(conv=>whnf))))
    ·exact⟨by rw[Ad Oo];rfl,U.ext⟩
    ·rw[Aa Oo];refine zcv (qtg t.text Oo W) ?_;rintro v w2 ⟨rfl,Z⟩;(conv=>whnf);exact⟨rfl,U.ext.trans Z⟩
 ·rw[hB Oo,Ad Oa];refine zl U 0 ?_;refine zcv (V W) ?_;rintro v w2 ⟨rfl,Z⟩;(conv=>whnf);exact⟨rfl,U.ext.trans Z⟩
 ·exact⟨by rw[hB Oo,Aa Oo];rfl,U.ext⟩
open Go.RowKit
namespace V
theorem StoreA.all{t:DX}{K:Ec}(h:Mem w0 w L)(hi:L[i]?=some (b,.cells cur t))(W:cur.size=vs.length)(U:∀v∈vs,v.oneCell'=true)(V:∀w',Mem w0 w' (L.set i (b,.cells vs.toArray t))->K w'):StoreA P w b 0 vs K:=by
 refine StoreA.mem h hi Oo U λw' Z=>V w' ?_
 grind [List.drop_eq_nil_of_le]
end V
open V
theorem q4u:∀(x y:LB),Op.bytesLess x y=decide (x<y)
 | [],[]=>by rfl
 | _::_,[]=>by rfl
 | [],_::_=>by rfl
 | a::x,b::y=>by
  rw[Op.bytesLess,q4u x y];simp only[Bp]
  by_cases U:a<b<;>by_cases V:a=b<;>by_cases W:x<y<;>simp[U,V,W]
theorem qdy{a b:DV}:slt a b=true↔a.data.toList<b.data.toList:=by
 grind [slt,q4u,ByteArray.toList_eq]
theorem qjx(a:DV):slt a a=false:=by
 grind [qdy]
theorem qm5{a b c:DV}(h:slt a b=true)(k:slt b c=true):slt a c=true:=by
 grind [qdy]
theorem qq5(a b:DV):slt a b=true\/a=b\/slt b a=true:=by
 rw[qdy,qdy]
 by_cases U:a.data.toList<b.data.toList
 ·exact .inl U
 ·by_cases V:b.data.toList<a.data.toList
  ·simp_all
  ·refine .inr (.inl ?_);have:=List.le_antisymm (List.not_lt.1 V) (List.not_lt.1 U);cases a;simp_all
namespace V
def encB(c:DY):Ee:=[.int .u8 c.toNat]
structure BS(w:DU)(v:DZ)(l:LB):Prop where
 h:∃A c,v=.slice A l.length c/\l.length<=c/\SlAt encB 1 w A l
theorem BS.ext{v:DZ}(h:BS w v l)(U:Ext w w'):BS w' v l:=by
 obtain⟨A,c,V,W,Z⟩:=h;exact⟨A,c,V,W,Z.ext U⟩
theorem BS.nil(w:DU):BS w (.slice none 0 0) []:=⟨none,0,rfl,by simp,⟨λh=>absurd rfl h⟩⟩
theorem SlAt.cut{α:Type}{enc:α->Ee}{U:Nat}{A':oA}{l:List α}(h:SlAt enc U w A l)(h1:lo<=hi)(h2:hi<=l.length)(h3:hi<=m)(e:A'=if m=lo then A else A.map (·.add (lo*U))):SlAt enc U w A' ((l.drop lo).take (hi-lo)):=by
 refine⟨λV=>?_⟩;have aa:lo<hi:=by
  rcases Bj lo hi with h|h
  ·exact h
  ·exact absurd (by rw[show hi-lo=0 by omega,BH]) V
 have hn:l≠[]:=by rintro rfl;simp at h2;omega
 obtain⟨b,off,rfl,hc⟩:=h.at_ hn;rw[Aa Oo]at e;simp only[Bd,qas]at e;refine⟨b,off+lo*U,e,λj x W=>?_⟩;have hj:j<hi-lo:=by
  have:=(Af.1 W).1;simp at this;omega
 have Z:l[lo+j]?=some x:=by
  rw[BE,Ad hj,Cn]at W;exact W
 have:=hc (lo+j) x Z
 rwa[Nat.add_mul,<-C7]at this
theorem SliceV.bs{n:Nat}{lo hi:Option DZ}{K:DZ->Prop}(Z:SlAt encB 1 w A l)(hl:l.length=n)(a b m:Nat)(h1:bnd lo 0 a)(h2:bnd hi n b)(h3:bnd mx c m)(U:a<=b)(aa:b<=n)(V:b<=m)(hm:m<=c)(hs:mx.isSome=true->hi.isSome=true)(hk:∀W,SlAt encB 1 w W ((l.drop a).take (b-a))->K (.slice W (b-a) (m-a))):SliceV 1 A n c lo hi mx K:=
 ⟨a,b,m,h1,h2,h3,U,V,hm,hs,λW e=>hk W (Z.cut U Oo V e)⟩
theorem ElemV.bs{n:Nat}{i:Int}{K:DZ->Prop}(W:SlAt encB 1 w A l)(U:l.length=n)(j:Nat)(e:i=(j:Int))(V:j<n)(Z:∀b off,w.cell? ⟨b,off,none⟩=some (.int .u8 (l[j]'(U ▸ V)).toNat)->K (.pointer (some ⟨b,off,none⟩))):ElemV A i n 1 K:=
 ElemV.sl W U j e V λb off hc=>Z b off (by have:=hc 0 _ rfl;rwa[BB]at this)
structure Upd(w w':DU)(b:Nat)(o:Obj):Prop where
 os:w'.os=w.os
 tape:w'.tape=w.tape
 output:w'.output=w.output
 size:w.heap.size<=w'.heap.size
 block:∀k,k<w.heap.size->k≠b->w'.heap[k]?=w.heap[k]?
 at_:w'.heap[b]?=some o
theorem Upd.refl{o:Obj}(h:w.heap[b]?=some o):Upd w w b o:=⟨rfl,rfl,rfl,Ai _,λ_ _ _=>rfl,h⟩
theorem Upd.of{o:Obj}(h:w.heap[b]?=some o)(U:Ext w w'):Upd w w' b o:=⟨U.os,U.tape,U.output,U.size,λk V _=>U.block k V,U.get h⟩
theorem Upd.set{t:DX}{v:DZ}(h:w.heap[b]?=some (.cells cs t fr))(U:w'=w.setCell ⟨b,off,none⟩ v):Upd w w' b (.cells (cs.setIfInBounds off v) t fr):=by
 subst U;exact⟨rfl,rfl,rfl,by simp[World.setCell],λk _ V=>Below.heap_setCell _ _ _ _ V,heap_setCell h⟩
theorem Upd.trans{a b c:DU}{o:Obj}(h:Upd a b k o)(U:Upd b c k o'):Upd a c k o':=
 ⟨U.os.trans h.os,U.tape.trans h.tape,U.output.trans h.output,AI h.size U.size,λj W V=>(U.block j (Bf W h.size) V).trans (h.block j W V),U.at_⟩
theorem Upd.ext{o:Obj}(h:Upd w w' b o)(U:Ext w0 w)(W:w0.heap.size<=b):Ext w0 w':=
 Below.trans U ⟨h.os,h.tape,h.output,h.size,λk V=>h.block k (Bf V U.size) Oo⟩
theorem Mem.upd{o:Obj}(h:Mem w0 w L)(hi:L[i]?=some (b,o))(hu:Upd w w' b o'):Mem w0 w' (L.set i (b,o')):=by
 have hm:(b,o)∈L:=zmg hi;have Z:i<L.length:=(Af.1 hi).1;have aa:L[i]=(b,o):=(Af.1 hi).2;have hn:((L.set i (b,o')).map (·.1))=L.map (·.1):=by
  rw[DR];apply Bk;intro j;rw[Cr]
  split
  ·rename_i e;subst e
   rw[Ao,hi];simp[Z]
  ·rfl
 refine⟨hu.ext h.ext (h.own _ hm).1,?_,by rw[hn];exact h.nodup⟩;intro x hx
 rcases CD hx with U | rfl
 ·refine⟨(h.own x U).1,?_⟩
  by_cases e:x.1=b
  ·obtain⟨j,hj,V⟩:=BY.1 hx
   by_cases W:j=i
   ·subst W;rw[List.getElem_set_self]at V;rw[<-V];exact hu.at_
   ·have h1:(L.map (·.1))[j]'(by simpa using hj)=b:=by
     have:(L.set i (b,o'))[j]=L[j]'(by simpa using hj):=List.getElem_set_ne (λe=>W e.symm) _;rw[CA,<-this,V,e]
    have h2:(L.map (·.1))[i]'(by simpa using Z)=b:=by rw[CA,aa]
    have:=(List.getElem_inj h.nodup).1 (h1.trans h2.symm);exact absurd this W
  ·rw[hu.block _ (h.lt (b:=x.1) (o:=x.2) U) e];exact(h.own x U).2
 ·exact⟨(h.own (b,o) hm).1,hu.at_⟩
end V
open Go.ChangeShapes Go.WideShapes Go.RowKit V
namespace V
section
variable {H:Type} {enc:DX×DZ->H} {P:DW} {w:DU} {t:DX}
theorem Opn.sliceR{α:Type}[Inhabited α]{en:α->Ee}{R:α->Prop}{size e:Nat}{c:DZ}(ht:P.underlying t=some (.slice e))(hc:P.cellsOf e=size)(ag:0<size)(W:∀x,(en x).length=size)(aa:∀cs,Opn enc P w e cs->∃x,cs=en x/\R x)(h:Opn enc P w t [c]):
  ∃(A:oA) (V:Nat) (l:List α),c=.slice A l.length V/\l.length<=V/\V*P.bytesOf e<=140737488351232/\(∀x∈l,R x)/\SlAt en size w A l:=by
 obtain⟨n,d,ps,h,hw⟩:=h;have e2:reachBytes=140737488351232:=rfl
 rcases Deep.open_slice ht h with⟨h1,_⟩|⟨a,U,V,m,n,D,Pl,h1,_,ah,ai,hm,hd,hx⟩
 ·refine⟨none,0,[],by simpa using h1,by simp,by simp,by simp,⟨λh=>absurd rfl h⟩⟩
 ·simp only[if_true]at hm;simp only[DM]at hd;obtain⟨rfl,_⟩:=hd;rw[DataW.weights,ht]at hw;simp only[AG,Dq]at hw;have ad:=hw _ mh;rw[show U+(m-U)=V by omega]at ad;obtain⟨X,hX⟩:=Deep.choose_lt (n:=U) (p:=λi (x:α)=>w.cells? 0 (a.add (i*P.cellsOf e)) (P.cellsOf e)=some (en x)/\R x) (λi hi=>by
   obtain⟨cs,h2,Z⟩:=hx i Oo;obtain⟨x,rfl,hr⟩:=aa cs ⟨n,D i,Pl i,Z,λk hk=>hw k (zmc (Aj _ (qg1 hk _ (AF.2 ⟨i,BP.2 hi,rfl⟩))))⟩;exact⟨x,h2,hr⟩)
  refine⟨some a,V,(List.range U).map X,by simpa using h1,by simp;omega,by omega,λs hs=>?_,⟨λhn=>?_⟩⟩
  ·obtain⟨i,hi,rfl⟩:=AF.1 hs;exact(hX i (BP.1 hi)).2
  ·have ae:0<U:=by
    rcases B9 U with h0|h0
    ·exact absurd (by rw[h0];rfl) hn
    ·exact h0
   have hs:a=⟨a.block,a.off,none⟩:=by
    obtain⟨_,_,h2⟩:=World.cells?_some (hX 0 ae).1;have Z:=h2 0 Oo;rw[zge (by rw[W];omega)]at Z;refine q6q (w:=w) (v:=(en (X 0))[0]'(by rw[W];omega)) ?_
    simpa[Addr.add]using Z
   refine⟨a.block,a.off,by rw[<-hs],λj s hj k v hv=>?_⟩;have af:j<U:=by
    have:=(Af.1 hj).1
    simpa using this
   rw[Ao,Bu af]at hj;simp only[Bd,AR]at hj;subst hj;obtain⟨_,_,h2⟩:=World.cells?_some (hX j af).1;have hk:k<size:=by rw[<-W (X j)];exact(Af.1 hv).1
   have Z:=h2 k Oo;rw[hv,hs,qas,qas,hc]at Z;exact Z
end
end V
def qf3(i n:Nat):LB->Nat×Nat×Nat
 | []=>(0,0,10)
 | c::l=>if(i=9/\1<c.toNat)\/(0<i/\c.toNat=0)then(0,0,11)else if c.toNat<128 then(n+c.toNat%128*2 ^ (7*i),i+1,0)else qf3 (i+1) (n+c.toNat%128*2 ^ (7*i)) l
def numL(l:LB):Nat×Nat×Nat:=qf3 0 0 l
theorem qdh{n:Nat}{c:DY}:qf3 i n (c::l)=if(i=9/\1<c.toNat)\/(0<i/\c.toNat=0)then(0,0,11)else if c.toNat<128 then(n+c.toNat%128*2 ^ (7*i),i+1,0)else qf3 (i+1) (n+c.toNat%128*2 ^ (7*i)) l:=rfl
theorem qbr{k:IntKind}(i:Nat)(U:InR k ((a+b*2 ^ i:Nat):Int))(V:a<2 ^ i):qfl .or k (a:Int) ((b*2 ^ i:Nat):Int)=((a+b*2 ^ i:Nat):Int):=by
 have e:(a |||b*2 ^ i)=a+b*2 ^ i:=by
  rw[Nat.or_comm,Cf b,DG];exact(Nat.two_pow_add_eq_or_of_lt V b).symm
 rw[quh (InR.le U Oo) (InR.le U Oo) (by rw[e];exact U),e]
theorem V.Wit.shlN{k:IntKind}{b:Int}{K:Int->Prop}(n:Nat)(e:b=(n:Int))(W:n<k.bits)(h:InR k ((a*2 ^ n:Nat):Int))(U:K ((a*2 ^ n:Nat):Int)):
  Wit (λr=>0<=b/\b<k.bits/\k.wrap ((a:Int)*2 ^ b.toNat)=r) K:=by
 subst e;have V:(a:Int)*2 ^ ((n:Int).toNat)=((a*2 ^ n:Nat):Int):=by
  rw[Dn];push_cast;rfl
 refine⟨_,⟨by omega,by omega,?_⟩,U⟩;rw[V];exact h.wrap
theorem pow7(i:Nat)(hi:i<=8):2 ^ (7*i)<=72057594037927936:=by
 have:2 ^ (7*i)<=2 ^ 56:=AY Od Oo
 simpa using this
theorem qi9(i n c:Nat)(hi:i<=9)(W:n<2 ^ (7*i))(hc:c<256)(Z:i=9->c<=1):c%128*2 ^ (7*i)<=9223372036854775808/\n+c%128*2 ^ (7*i)<2 ^ 64/\(i<9->n+c%128*2 ^ (7*i)<2 ^ (7*(i+1))):=by
 by_cases e:i=9
 ·subst e;have h1:=Z rfl;have h2:c%128=c:=BZ Oo;rw[h2];have V:2 ^ (7*9)=9223372036854775808:=by decide
  rw[V]at W|-;have:c*9223372036854775808<=1*9223372036854775808:=Bx _ h1;have U:2 ^ 64=18446744073709551616:=by decide
  exact⟨by omega,by rw[U];omega,λh=>by omega⟩
 ·have V:2 ^ (7*(i+1))=128*2 ^ (7*i):=by rw[Nat.mul_add,Nat.pow_add];omega
  have hm:c%128*2 ^ (7*i)<=127*2 ^ (7*i):=Bx _ Oo;have h7:=pow7 i Oo;have U:2 ^ 64=18446744073709551616:=by decide
  exact⟨by omega,by rw[U];omega,λ_=>by rw[V];omega⟩
def numV(r:Nat×Nat×Nat):DZ:=.tuple #[.int .u64 r.1,ii r.2.1,ii r.2.2]
theorem qeu{n:Nat}(h:n<2 ^ 64):InR .u64 (n:Int):=by
 have U:2 ^ 64=18446744073709551616:=by decide
 exact⟨by omega,by omega⟩
theorem qsg(l:LB)(i:Nat)(h:i<l.length):l.drop i=l[i]::l.drop (i+1):=Br h
theorem q0j(l:LB)(A:oA)(c:Nat)(w:DU)(hS:SlAt encB 1 w A l)(hl:l.length<=140737488355328):
  Gv Eg 180 [.slice A l.length c] w λv w'=>v=numV (numL l)/\w'=w:=by
 refine ze Tryz.func180 Tryz.ntmps180 ?_;refine qk (λx:Nat×Nat=>[(0,.slice A l.length c),(5,.int .u64 x.2),(6,ii x.1)]) (λx w1=>x.1<=l.length/\x.1<=9/\x.2<2 ^ (7*x.1)/\numL l=qf3 x.1 x.2 (l.drop x.1)/\w1=w) (λx=>l.length-x.1) (0,0)
  fq ⟨by simp,by simp,by simp,by rw[BF];rfl,rfl⟩ ?_
 rintro⟨i,n⟩ w1 ae ⟨h1,h9,hn,U,rfl⟩;dsimp only at h1 h9 hn U|-;(conv=>whnf);refine zC (λ_=>zw ?_) (λ_=>zw ?_)
 ·have hi:i<l.length:=by omega
  rw[qsg l i hi,qdh]at U;obtain⟨Z,aa⟩:∃Z,Z=l[i]:=⟨_,rfl⟩
  have ad:Z.toNat<256:=Z.toBitVec.isLt;rw[<-aa]at U;refine ElemV.bs hS rfl i rfl hi ?_;intro eb eo W;rw[<-aa]at W;refine LoadV.of W (zw ?_)
  (repeat'(first|refine zp ?_|refine zC (λ_=>zw ?_) (λ_=>zw ?_)))
  all_goals first
   | exact⟨by rw[U,Ad Oo];rfl,rfl⟩
   | skip
  all_goals
   rw[Aa Oo]at U;obtain⟨g1,g2,g3⟩:=qi9 i n Z.toNat h9 hn ad Oo;refine Wit.eq (qay (k:=.u8) (m:=Z.toNat) 7 rfl ⟨by omega,by omega⟩ ⟨by omega,by omega⟩) (zu ?_);refine V.Wit.shlN (7*i) Oo (by show 7*i<64;omega) (qeu (by show Z.toNat%2 ^ 7*2 ^ (7*i)<_;rw[show 2 ^ 7=128 from rfl];omega)) ?_;refine Wit.eq (qbr (7*i) (qeu g2) hn) (zw ?_)
   (repeat'(first|refine zp ?_|refine zC (λ_=>zw ?_) (λ_=>zw ?_)))
   all_goals first
    | (rw[Ad Oo]at U;exact⟨by rw[U];rfl,rfl⟩)
    | (rw[Aa Oo]at U;exact⟨(i+1,n+Z.toNat%128*2 ^ (7*i)),fq,⟨by simp only;omega,by simp only;omega,g3 Oo,U,rfl⟩,by simp only;omega⟩)
 ·rw[AN Oo,qf3]at U;exact⟨by rw[U];rfl,rfl⟩
end Go.Proofs.YtccmcfpmknpccaaGreatDoor
