/- Lemmas and contracts of functions on the way to the law's card (part 3 of 11). -/
import Derived.Test.YtccmcfpmknpccaaGreatDoorSO2
import Derived.Laws.Small
import Derived.Laws.StructEq
namespace Go.Proofs.YtccmcfpmknpccaaGreatDoor
set_option maxHeartbeats 8000000
open Go.RowKit V
set_option maxHeartbeats 8000000
set_option maxRecDepth 100000
variable {W w w' w0:DA} {L L':DJ} {a b c d g hi i k lo m nb off rb tb:Nat} {cs cur:DN} {A B:oA} {R' R2:List (DK×DF)} {x:DF} {ty:DD} {K:DG} {O:DL} {a0:DB} {vals ρ:DH} {P:DC} {vs xs:DK} {l:LB} {mx:Option DF} {fr:Nat×Nat} {o':Obj} {o:Oper} {xo yo:Operand}
theorem qfk{t:DD}{v:DF}{K:DI}(U:Mem w0 w L)(hi:(b,Obj.cells cs t)∈L)(V:off<cs.size)(Z:qc8 v=true)(hk:∀w' L',Mem w0 w' L'->(b,Obj.cells (cs.setIfInBounds off v) t)∈L'->(∀y∈L,y.1≠b->y∈L')->K w'):StoreV w b off v K:=by
 obtain⟨i,hi⟩:=AT.1 hi;exact StoreV.mem U hi V Z λw' h=>hk w' _ h (qfy hi).1 (qfy hi).2
theorem V.SliceV.tailA{n:Nat}{k:IntKind}{K:DF->Prop}(hA:A=some ⟨g,off,none⟩)(hn:n=m+1)(hc:n<=c)(Z:∀V c',(m≠0->V=some ⟨g,off+1,none⟩)->m<=c'->K (.slice V m c')):SliceV 1 A n c (some (.int k 1)) none none K:=by
 subst hn hA;refine⟨1,m+1,c,rfl,rfl,rfl,by omega,by omega,by omega,λh=>by simp at h,λV U=>?_⟩;have Z:=Z V (c-1) (λaa=>?_) Oo
 ·simpa using Z
 ·rw[Aa Oo]at U;rw[U];show some ((⟨g,off,none⟩:Addr).add (1*1))=_;rw[qaq]
structure RQ0(w0 w:DA)(O:DL)(rb tb:Nat)(rest:List DB)(a0:DB)(vs es:List DB)(A:oA)(c:Nat)(X Y T4 T5:DF)(a1 a2 a3 a6:DB)(L:DJ)(R2:List (DK×DF)):Prop where
 mem:Mem w0 w L
 rd:(rb,Obj.cells #[.slice A rest.length c] 462)∈L
 tg:(tb,Obj.cells (tagC a0 a1 a2 a3 T4 T5 a6).toArray 263)∈L
 rows:RowsP 9 O L ((vs.map Value.string,X)::(es.map Value.string,Y)::R2)
 sl:rest≠[]->∃g cur off,A=some ⟨g,off,none⟩/\g∈O/\g≠rb/\g≠tb/\(g,Obj.cells cur 9)∈L/\∀(j:Nat) x,rest[j]?=some x->cur[off+j]?=some (Value.string x)
 hc:rest.length<=c
 hrb:rb∈O
 htb:tb∈O
 ne:rb≠tb
 all:∀g∈O,∃o,(g,o)∈L
 small:∀x∈rest,x.size<=1000000
def RQ(w0 w:DA)(O:DL)(rb tb:Nat)(rest:List DB)(a0:DB)(vs es:List DB)(R2:List (DK×DF)):Prop:=
 ∃A c X Y a1 a2 a3 a6 L,RQ0 w0 w O rb tb rest a0 vs es A c X Y X Y a1 a2 a3 a6 L R2
section
variable {w0 w w':DA} {O:DL} {rb tb:Nat} {rest:List DB} {a0:DB} {vs es:List DB} {R2:List (DK×DF)}
theorem RQ.call(h:RQ w0 w O rb tb rest a0 vs es R2)(U:Ext w w'):RQ w0 w' O rb tb rest a0 vs es R2:=by
 obtain⟨A,c,X,Y,a1,a2,a3,a6,L,h⟩:=h;exact⟨A,c,X,Y,a1,a2,a3,a6,L,{ h with mem:=h.mem.call U }⟩
theorem RQ.drew(h:RQ w0 w O rb tb rest a0 vs es R2):RQ w0 w.drew O rb tb rest a0 vs es R2:=h.call (Ext.refl w).drew
theorem RQ.ext(h:RQ w0 w O rb tb rest a0 vs es R2):Ext w0 w:=by
 obtain⟨A,c,X,Y,a1,a2,a3,a6,L,h⟩:=h;exact h.mem.ext
theorem RQ.small(h:RQ w0 w O rb tb rest a0 vs es R2):∀x∈rest,x.size<=1000000:=by
 obtain⟨A,c,X,Y,a1,a2,a3,a6,L,h⟩:=h;exact h.small
theorem RQ0.slAt{X Y T4 T5:DF}{a1 a2 a3 a6:DB}(h:RQ0 w0 w O rb tb rest a0 vs es A c X Y T4 T5 a1 a2 a3 a6 L R2):SlAt V.zeS 1 w A rest:=by
 refine⟨λU=>?_⟩;obtain⟨g,cur,off,rfl,_,_,_,hg,hx⟩:=h.sl U;refine⟨g,off,rfl,λj x hj k v Z=>?_⟩;cases k with
 | succ k=>simp[V.zeS]at Z
 | zero=>
  simp only[V.zeS,AQ,AI]at Z;subst Z;rw[qa (h.mem.get hg),Bt,Bx];exact hx j x hj
theorem RQ.ldr{K:DF->Prop}(h:RQ w0 w O rb tb rest a0 vs es R2)(U:∀A c,SlAt V.zeS 1 w A rest->rest.length<=c->K (.slice A rest.length c)):LoadV w rb 0 K:=by
 obtain⟨A,c,X,Y,a1,a2,a3,a6,L,h⟩:=h;exact LoadV.own (h.mem.get h.rd) rfl (U A c h.slAt h.hc)
theorem RQ.ld0{K:DF->Prop}(h:RQ w0 w O rb tb rest a0 vs es R2)(U:K (.string a0)):LoadV w tb 0 K:=by
 obtain⟨A,c,X,Y,a1,a2,a3,a6,L,h⟩:=h;exact LoadV.own (h.mem.get h.tg) rfl U
theorem RQ0.tag{X Y T4 T5:DF}{a1 a2 a3 a6 Z b1 b2 b3 b6:DB}(h:RQ0 w0 w O rb tb rest a0 vs es A c X Y T4 T5 a1 a2 a3 a6 L R2)(hm:Mem w0 w' L')(ht:(tb,Obj.cells (tagC Z b1 b2 b3 X Y b6).toArray 263)∈L')(U:∀y∈L,y.1≠tb->y∈L'):RQ w0 w' O rb tb rest Z vs es R2:=by
 refine⟨A,c,X,Y,b1,b2,b3,b6,L',hm,U _ h.rd h.ne,ht,h.rows.keep λy hy hO=>U y hy λe=>hO (e ▸ h.htb),λV=>?_,h.hc,h.hrb,h.htb,h.ne,λg hg=>?_,h.small⟩
 ·obtain⟨g,cur,off,h1,h2,h3,h4,h5,h6⟩:=h.sl V;exact⟨g,cur,off,h1,h2,h3,h4,U _ h5 h4,h6⟩
 ·by_cases e:g=tb
  ·subst e;exact⟨_,ht⟩
  ·obtain⟨o,ho⟩:=h.all g hg;exact⟨o,U _ ho e⟩
theorem RQ.st{K:DI}(h:RQ w0 w O rb tb rest a0 vs es R2)(Z:k=1\/k=2\/k=3\/k=6)(s:DB)(hK:∀w',RQ w0 w' O rb tb rest a0 vs es R2->K w'):StoreV w tb k (.string s) K:=by
 obtain⟨A,c,X,Y,a1,a2,a3,a6,L,h⟩:=h;have U:k<(tagC a0 a1 a2 a3 X Y a6).toArray.size:=by simp[tagC];omega
 refine qfk h.mem h.tg U rfl λw' L' hm ht V=>hK w' ?_
 rcases Z with rfl|rfl|rfl|rfl
 all_goals exact h.tag hm ht V
theorem RQ.st0{K:DI}(h:RQ w0 w O rb tb rest a0 vs es R2)(s:DB)(V:∀w',RQ w0 w' O rb tb rest s vs es R2->K w'):StoreV w tb 0 (.string s) K:=by
 obtain⟨A,c,X,Y,a1,a2,a3,a6,L,h⟩:=h;exact qfk h.mem h.tg (by simp[tagC]) rfl λw' L' Z ht U=>V w' (h.tag Z ht U)
end
section
variable {w0 w w':DA} {O:DL} {rb tb:Nat} {rest:List DB} {a0:DB} {vs es:List DB} {R2:List (DK×DF)} {X Y T4 T5:DF} {A:oA} {c:Nat} {a1 a2 a3 a6:DB} {L L':DJ}
theorem RQ0.call(h:RQ0 w0 w O rb tb rest a0 vs es A c X Y T4 T5 a1 a2 a3 a6 L R2)(U:Ext w w'):RQ0 w0 w' O rb tb rest a0 vs es A c X Y T4 T5 a1 a2 a3 a6 L R2:={ h with mem:=h.mem.call U }
theorem RQ0.grow{X' Y':DF}{U V:List DB}(h:RQ0 w0 w O rb tb rest a0 vs es A c X Y T4 T5 a1 a2 a3 a6 L R2)(hm:Mem w0 w' L')(hR:RowsP 9 O L' ((U.map Value.string,X')::(V.map Value.string,Y')::R'))(Z:∀y∈L,y.1∈O->y∈L'):RQ0 w0 w' O rb tb rest a0 U V A c X' Y' T4 T5 a1 a2 a3 a6 L' R':=by
 refine⟨hm,Z _ h.rd h.hrb,Z _ h.tg h.htb,hR,λaa=>?_,h.hc,h.hrb,h.htb,h.ne,λg hg=>?_,h.small⟩
 ·obtain⟨g,cur,off,h1,h2,h3,h4,h5,h6⟩:=h.sl aa;exact⟨g,cur,off,h1,h2,h3,h4,Z _ h5 h2,h6⟩
 ·obtain⟨o,ho⟩:=h.all g hg;exact⟨o,Z _ ho hg⟩
theorem V.RowsP.nilrow{e:DD}{R:List (DK×DF)}(h:RowsP e O L R):RowsP e O L (R++[([],.slice none 0 0)]):=by
 have V:∀(k:Nat) p,(R++[([],Value.slice none 0 0)])[k]?=some p->R[k]?=some p\/p=([],.slice none 0 0):=λk p U=>by
  rw[Cd]at U
  split at U
  ·exact .inl U
  ·exact .inr (by have:=zmg U;simpa using this)
 refine⟨λk p U=>?_,λk p g U hg=>?_,λk k' p p' g U Z aa hg=>?_⟩
 ·rcases V k p U with U|rfl
  ·exact h.row k p U
  ·exact RowB.nil e L
 ·rcases V k p U with U|rfl
  ·exact h.out k p g U hg
  ·cases hg
 ·rcases V k p U with U|rfl
  ·rcases V k' p' Z with Z | rfl
   ·exact h.ap k k' p p' g U Z aa hg
   ·intro ad;cases ad
  ·cases hg
theorem V.RowsP.newrow{e:DD}{R:List (DK×DF)}(h:RowsP e O L R)(hb:∀y∈L,y.1≠b)(hO:b∉O):RowsP e O ((b,.cells #[x] e)::L) (R++[([x],.slice (some ⟨b,0,none⟩) 1 1)]):=by
 have V:∀(k:Nat) p,(R++[([x],Value.slice (some ⟨b,0,none⟩) 1 1)])[k]?=some p->R[k]?=some p\/(k=R.length/\p=([x],.slice (some ⟨b,0,none⟩) 1 1)):=λk p U=>by
  rw[Cd]at U
  split at U
  ·exact .inl U
  ·obtain⟨h1,h2⟩:=Ae.1 U;simp at h1;have:k-R.length=0:=by omega
   refine .inr ⟨by omega,?_⟩
   simpa[this]using h2.symm
 have Z:∀(k:Nat) p,R[k]?=some p->p.2.ownBlock≠some b:=λk p U hg=>by
  obtain⟨o,ae⟩:=(h.row k p U).in_ hg;exact hb _ ae rfl
 refine⟨λk p U=>?_,λk p g U hg=>?_,λk k' p p' g U aa ad hg=>?_⟩
 ·rcases V k p U with U|⟨_,rfl⟩
  ·exact(h.row k p U).keep λy hy _=>zmc hy
  ·exact⟨.inr ⟨b,1,#[x],rfl,AJ ..,Ai _,by decide,rfl,rfl⟩⟩
 ·rcases V k p U with U|⟨_,rfl⟩
  ·exact h.out k p g U hg
  ·cases hg;exact hO
 ·rcases V k p U with U|⟨e1,rfl⟩<;>rcases V k' p' aa with aa | ⟨e2,rfl⟩
  ·exact h.ap k k' p p' g U aa ad hg
  ·intro af;cases af;exact Z k p U hg
  ·cases hg;exact Z k' p' aa
  ·exact absurd (e1.trans e2.symm) ad
theorem V.RowsP.cut{e:DD}{R:List (DK×DF)}(h:RowsP e O L (R++R')):RowsP e O L R:=by
 have up:∀(k:Nat) p,R[k]?=some p->(R++R')[k]?=some p:=λk p U=>by
  rw[AS (Ae.1 U).1,U]
 exact⟨λk p U=>h.row k p (up k p U),λk p g U V=>h.out k p g (up k p U) V,λk k' p p' g U Z aa V=>h.ap k k' p p' g (up k p U) (up k' p' Z) aa V⟩
theorem RQ.nilrow(h:RQ w0 w O rb tb rest a0 vs es []):RQ w0 w O rb tb rest a0 vs es [([],.slice none 0 0)]:=by
 obtain⟨A,c,X,Y,a1,a2,a3,a6,L,h⟩:=h;exact⟨A,c,X,Y,a1,a2,a3,a6,L,{ h with rows:=h.rows.nilrow }⟩
theorem RQ.cut(h:RQ w0 w O rb tb rest a0 vs es R2):RQ w0 w O rb tb rest a0 vs es []:=by
 obtain⟨A,c,X,Y,a1,a2,a3,a6,L,h⟩:=h;exact⟨A,c,X,Y,a1,a2,a3,a6,L,{ h with rows:=RowsP.cut (R:=[(vs.map Value.string,X),(es.map Value.string,Y)]) (R':=R2) h.rows }⟩
theorem NewV.rq{o:Obj}{K:Nat->DI}(h:RQ w0 w O rb tb rest a0 vs es R2)(V:∀b w',RQ w0 w' O rb tb rest a0 vs es R2->w'.heap[b]?=some o->K b w'):NewV w o K:=
 ⟨λb w' Z U=>V b w' (h.call (by subst U;exact(Ext.refl w).alloc o)) (by subst Z U;exact heap_alloc_new w o)⟩
theorem NewV.rq0{o:Obj}{K:Nat->DI}(h:RQ0 w0 w O rb tb rest a0 vs es A c X Y T4 T5 a1 a2 a3 a6 L R2)(V:∀b w',RQ0 w0 w' O rb tb rest a0 vs es A c X Y T4 T5 a1 a2 a3 a6 L R2->w'.heap[b]?=some o->K b w'):NewV w o K:=
 ⟨λb w' Z U=>V b w' (h.call (by subst U;exact(Ext.refl w).alloc o)) (by subst Z U;exact heap_alloc_new w o)⟩
theorem NewV.rqrow{K:Nat->DI}(h:RQ w0 w O rb tb rest a0 vs es [])(Z:∀b w',RQ w0 w' O rb tb rest a0 vs es [([x],.slice (some ⟨b,0,none⟩) 1 1)]->K b w'):NewV w (.cells #[x] 9) K:=by
 obtain⟨A,c,X,Y,a1,a2,a3,a6,L,h⟩:=h;refine⟨λb w' hb hw=>Z b w' ?_⟩;have U:∀y∈L,y.1≠b:=λy V e=>by have:=h.mem.lt (o:=y.2) (b:=y.1) V;omega
 have hO:b∉O:=λhg=>by
  obtain⟨o,ho⟩:=h.all b hg;exact U _ ho rfl
 have hr:=RowsP.newrow (x:=x) h.rows U hO;exact⟨A,c,X,Y,a1,a2,a3,a6,_,h.grow (h.mem.new hb hw) hr λy V _=>zmc V⟩
theorem RQ.appL{l:List DB}{x:DB}{d:DD}(h:RQ w0 w O rb tb rest a0 vs es [(l.map Value.string,.slice B l.length d)])(hb:w.heap[nb]?=some (.cells #[.string x] 9))(hl:l.length<=7000000000000)(hk:∀U V w',RQ w0 w' O rb tb rest a0 vs es [((l++[x]).map Value.string,.slice U (l++[x]).length V)]->K (.slice U (l.length+1) V) w'):AppV DM #[159,159] ty (.slice B l.length d) (.slice (some ⟨nb,0,none⟩) 1 1) w K:=by
 obtain⟨A,c,X,Y,a1,a2,a3,a6,L,h⟩:=h;refine h.rows.app 2 rfl qtq strI strZ Jk rfl (by decide +kernel) h.mem h.all Js rfl (by rw[qa hb];rfl) Oo ?_;intro U V w' L' hm hR Z;refine hk U V w' ⟨A,c,X,Y,a1,a2,a3,a6,L',h.grow hm ?_ Z⟩;rw[AH,zla];exact hR
theorem RQ.rowL{l:List DB}{n:Nat}(h:RQ w0 w O rb tb rest a0 vs es [(l.map Value.string,.slice B n d)]):SlAt V.zeS 1 w B l:=by
 obtain⟨A,c,X,Y,a1,a2,a3,a6,L,h⟩:=h;exact RowB.sl (h.rows.row 2 _ rfl) h.mem
theorem RQ0.rowL{l:List DB}{n:Nat}(h:RQ0 w0 w O rb tb rest a0 vs es A c X Y T4 T5 a1 a2 a3 a6 L [(l.map Value.string,.slice B n d)]):SlAt V.zeS 1 w B l:=RowB.sl (h.rows.row 2 _ rfl) h.mem
theorem RQ0.app4{x:DB}{d:DD}(h:RQ0 w0 w O rb tb rest a0 vs es A c (.slice B vs.length d) Y T4 T5 a1 a2 a3 a6 L R2)(hb:w.heap[nb]?=some (.cells #[.string x] 9))(hl:vs.length<=7000000000000)(hk:∀U V w' L',RQ0 w0 w' O rb tb rest a0 (vs++[x]) es A c (.slice U (vs.length+1) V) Y T4 T5 a1 a2 a3 a6 L' R2->K (.slice U (vs.length+1) V) w'):AppV DM #[159,159] ty (.slice B vs.length d) (.slice (some ⟨nb,0,none⟩) 1 1) w K:=by
 refine h.rows.app 0 rfl qtq strI strZ Jk rfl (by decide +kernel) h.mem h.all Js rfl (by rw[qa hb];rfl) Oo ?_;intro U V w' L' hm hR Z;refine hk U V w' L' (h.grow hm ?_ Z);rw[AH];exact hR
theorem RQ0.app5{x:DB}{d:DD}(h:RQ0 w0 w O rb tb rest a0 vs es A c X (.slice B es.length d) T4 T5 a1 a2 a3 a6 L R2)(hb:w.heap[nb]?=some (.cells #[.string x] 9))(hl:es.length<=7000000000000)(hk:∀U V w' L',RQ0 w0 w' O rb tb rest a0 vs (es++[x]) A c X (.slice U (es.length+1) V) T4 T5 a1 a2 a3 a6 L' R2->K (.slice U (es.length+1) V) w'):AppV DM #[159,159] ty (.slice B es.length d) (.slice (some ⟨nb,0,none⟩) 1 1) w K:=by
 refine h.rows.app 1 rfl qtq strI strZ Jk rfl (by decide +kernel) h.mem h.all Js rfl (by rw[qa hb];rfl) Oo ?_;intro U V w' L' hm hR Z;refine hk U V w' L' (h.grow hm ?_ Z);rw[AH];exact hR
theorem RQ0.st4{n:Nat}{K:DI}(h:RQ0 w0 w O rb tb rest a0 vs es A c (.slice B n d) Y T4 Y a1 a2 a3 a6 L R2)(V:∀w',RQ w0 w' O rb tb rest a0 vs es R2->K w'):StoreV w tb 4 (.slice B n d) K:=
 qfk h.mem h.tg (by simp[tagC]) rfl λw' L' Z ht U=>V w' (h.tag Z ht U)
theorem RQ0.st5{n:Nat}{K:DI}(h:RQ0 w0 w O rb tb rest a0 vs es A c X (.slice B n d) X T5 a1 a2 a3 a6 L R2)(V:∀w',RQ w0 w' O rb tb rest a0 vs es R2->K w'):StoreV w tb 5 (.slice B n d) K:=
 qfk h.mem h.tg (by simp[tagC]) rfl λw' L' Z ht U=>V w' (h.tag Z ht U)
end
def qfm(lo hi:Nat)(U:Bool):List DB->Bool
 | []=>false
 | x::_=>decide (lo<=x.size/\x.size<=hi)&&(bif U then digA x else letA x)
theorem qby{x:DB}{xs:List DB}{vs es:List DB}(h:RQ w0 w O rb tb (x::xs) a0 vs es R2):
  Gv DM 355 [pp rb] w λv w'=>v=.string x/\RQ w0 w' O rb tb xs a0 vs es R2:=by
 refine ze Tryz.func355 Tryz.ntmps355 ?_;refine h.ldr ?_;intro A c hS hc;(conv=>whnf);refine ElemV.sl hS rfl 0 rfl Js ?_;intro b off Z;(conv=>whnf);refine LoadV.cell0 Z (zw ?_);obtain⟨A,c,X,Y,a1,a2,a3,a6,L,h⟩:=h;refine LoadV.own (h.mem.get h.rd) rfl (zw ?_);obtain⟨g,cur,off,rfl,hg,g1,g2,g3,g4⟩:=h.sl Js;refine V.SliceV.tailA rfl rfl h.hc ?_;intro A' c' aa ad;(conv=>whnf);refine qfk h.mem h.rd (show 0<1 by omega) rfl ?_;intro w2 L2 hm hr U;(conv=>whnf);refine⟨rfl,A',c',X,Y,a1,a2,a3,a6,L2,hm,hr,U _ h.tg (λe=>h.ne e.symm),h.rows.keep λy hy hO=>U y hy λe=>hO (e ▸ h.hrb),λae=>?_,ad,h.hrb,h.htb,h.ne,λg' af=>?_,λy hy=>h.small y (zmc hy)⟩
 ·refine⟨g,cur,off+1,aa (by simpa using ae),hg,g1,g2,U _ g3 g1,λj y hj=>?_⟩;have:=g4 (j+1) y (by simpa using hj)
  rwa[show off+1+j=off+(j+1)by omega]
 ·by_cases e:g'=rb
  ·subst e;exact⟨_,hr⟩
  ·obtain⟨o,ho⟩:=h.all g' af;exact⟨o,U _ ho e⟩
theorem qi7{rest:List DB}{vs es:List DB}(lo hi:Nat)(U:Bool)(h:RQ w0 w O rb tb rest a0 vs es R2):
  Gv DM 354 [pp rb,ii lo,ii hi,.bool U] w λv w'=>v=.bool (qfm lo hi U rest)/\RQ w0 w' O rb tb rest a0 vs es R2:=by
 refine ze Tryz.func354 Tryz.ntmps354 ?_;refine h.ldr ?_;intro A c Z hc;(conv=>whnf);cases rest with
 | nil=>
  refine zC (λ_=>zu ?_) (λ_=>zu ?_)
  ·exact⟨rfl,h⟩
  ·exact absurd rfl Oa
 | cons x xs=>
  have hx:=h.small x mh;simp only[Au]at hc|-;refine zv ?_;refine h.ldr ?_;intro A c Z hc;refine zu ?_;refine ElemV.sl Z rfl 0 rfl Js ?_;intro b off V;refine zu ?_;refine LoadV.cell0 V (zw ?_);refine zt ?_;refine zC (λ_=>zu ?_) (λ_=>zu ?_)
  ·have:¬(lo<=x.size/\x.size<=hi):=λe=>by simp only[BT]at *;omega
   exact⟨by rw[qfm,Ax this];rfl,h⟩
  ·refine h.ldr ?_;intro A c Z hc;refine zu ?_;refine ElemV.sl Z rfl 0 rfl Js ?_;intro b off V;refine zu ?_;refine LoadV.cell0 V (zw ?_);refine zt ?_;refine zC (λ_=>zw ?_) (λ_=>zw ?_)
   ·have:¬(lo<=x.size/\x.size<=hi):=λe=>by simp only[BT]at *;omega
    exact⟨by rw[qfm,Ax this];rfl,h⟩
   ·have aa:lo<=x.size/\x.size<=hi:=by simp only[BT]at *;omega
    have em:qfm lo hi U (x::xs)=bif U then digA x else letA x:=by rw[qfm,At aa,Ct]
    rw[em];cases U
    all_goals
     refine zu ?_;refine h.ldr ?_;intro A c Z hc;(conv=>whnf);refine ElemV.sl Z rfl 0 rfl Js ?_;intro b off V;(conv=>whnf);refine LoadV.cell0 V (zw ?_)
    ·refine zcv (qlp x Oo w) ?_;rintro v w' ⟨rfl,rfl⟩;(conv=>whnf);exact⟨rfl,h⟩
    ·refine zcv (qfr x Oo w) ?_;rintro v w' ⟨rfl,rfl⟩;(conv=>whnf);exact⟨rfl,h⟩
theorem qc2(lo hi:Nat)(x:DB)(xs:List DB):qfm lo hi false (x::xs)=qac x lo hi true:=by
 have:letA x=x.data.toList.all (alnB true):=by
  unfold letA
  congr 1
  funext c
  simp[alnB]
 rw[qfm,qac,cond_false,this,Bool.and_comm]
theorem qus{rest:List DB}{vs es:List DB}(h:RQ w0 w O rb tb rest a0 vs es []):
  Gv DM 353 [pp rb,pp tb] w λv w'=>(qer rest=none/\v=.bool false/\Ext w0 w')\/
   ∃V b0,qer rest=some V/\v=.bool true/\2<=b0.size/\RQ w0 w' O rb tb V b0 vs es []:=by
 refine ze Tryz.func353 Tryz.ntmps353 ?_;refine zcv (qi7 2 3 false h) ?_;rintro v w1 ⟨rfl,h1⟩;(conv=>whnf);cases q1:qfm 2 3 false rest
 ·refine zu ?_;refine zcv (qi7 4 8 false h1) ?_;rintro v w2 ⟨rfl,h2⟩;(conv=>whnf);cases q2:qfm 4 8 false rest
  ·refine zu ?_;refine .inl ⟨?_,rfl,h2.ext⟩;cases rest with
   | nil=>rfl
   | cons x xs=>
    rw[qc2]at q1 q2;rw[qer,Aa];intro hm;simp[qac]at hm q1 q2;obtain⟨ha,hb⟩:=hm;have:=q1 ha;have:=q2 ha;omega
  ·obtain⟨x,xs,rfl⟩:∃x xs,rest=x::xs:=by
    cases rest with
    | nil=>cases q2
    | cons x xs=>exact⟨x,xs,rfl⟩
   rw[qc2]at q2;simp[qac]at q2;refine zu ?_;refine zcv (qby h2) ?_;rintro v w3 ⟨rfl,h3⟩;(conv=>whnf);refine h3.st0 x ?_;intro w4 h4;(conv=>whnf);refine .inr ⟨xs,x,?_,rfl,by omega,h4⟩;rw[qer,Ab (by simp[qac];exact⟨q2.1,by omega,by omega⟩),Ab Oo]
 ·obtain⟨x,xs,rfl⟩:∃x xs,rest=x::xs:=by
   cases rest with
   | nil=>cases q1
   | cons x xs=>exact⟨x,xs,rfl⟩
  rw[qc2]at q1;simp[qac]at q1;have hL:qer (x::xs)=some (qe6 3 xs):=by rw[qer,Ab (by simp[qac];exact⟨q1.1,by omega,by omega⟩),Aa Oo]
  rw[hL];refine zu ?_;refine zcv (qby h1) ?_;rintro v w3 ⟨rfl,h3⟩;(conv=>whnf);refine h3.st0 x ?_;intro w4 h4;(conv=>whnf);refine qq (λy:List DB×List DB×oA×Nat=>[(0,pp rb),(1,pp tb),(5,.slice y.2.2.1 y.1.length y.2.2.2)])
   (λy w5=>RQ w0 w5 O rb tb y.2.1 x vs es [(y.1.map Value.string,.slice y.2.2.1 y.1.length y.2.2.2)]/\y.1.length<=3/\(∀z∈y.1,z.size<=3)/\qe6 (3-y.1.length) y.2.1=qe6 3 xs)
   (λy=>3-y.1.length) ([],xs,none,0) fq ⟨h4.nilrow,by simp,by simp,rfl⟩ ?_
  rintro⟨l,Z,B,d⟩ w5 af ⟨h5,hl,hz,e5⟩;simp only at h5 hl hz e5;dsimp only;(conv=>whnf);refine zC (λ_=>zu ?_) (λ_=>zu ?_)
  ·have ad:l.length<3:=by omega
   obtain⟨m,hm⟩:∃m,3-l.length=m+1:=⟨2-l.length,by omega⟩
   rw[hm]at e5;refine zcv (qi7 3 3 false h5) ?_;rintro v w6 ⟨rfl,h6⟩;cases q3:qfm 3 3 false Z
   ·have e6:qe6 3 xs=Z:=by
     cases Z with
     | nil=>rw[<-e5];rfl
     | cons y ys=>
      rw[qc2]at q3;rw[<-e5,qe6,Aa (by rw[q3];simp)]
    rw[e6];refine zu ?_;refine zcv (qf6 l B d w6 h6.rowL (λz U=>by have:=hz z U;omega) Oo) ?_;rintro v w7 ⟨rfl,aa⟩;have h7:=h6.call aa;(conv=>whnf);refine h7.st Js _ ?_;intro w8 h8;(conv=>whnf);exact .inr ⟨Z,x,rfl,rfl,by omega,h8.cut⟩
   ·obtain⟨y,ys,rfl⟩:∃y ys,Z=y::ys:=by
     cases Z with
     | nil=>cases q3
     | cons y ys=>exact⟨y,ys,rfl⟩
    rw[qc2]at q3;rw[qe6,Ab q3]at e5;simp[qac]at q3;refine zu ?_;refine zcv (qby h6) ?_;rintro v w7 ⟨rfl,h7⟩;(conv=>whnf);refine NewV.rq h7 λnb w8 h8 ae=>zw ?_;refine h8.appL ae Oo ?_;intro B' d' w9 h9;(conv=>whnf);refine⟨(l++[y],ys,B',d'),⟨rfl,rfl,by simp only[zla];rfl,trivial⟩,⟨h9,by simp;omega,?_,?_⟩,by simp;omega⟩
    ·intro z U
     rcases AU.1 U with U | U
     ·exact hz z U
     ·obtain rfl:=Aq.1 U;omega
    ·simp only[zla,Bw];rw[show 3-(l.length+1)=m by omega];exact e5
  ·have ad:l.length=3:=by omega
   rw[ad]at e5;have e6:qe6 3 xs=Z:=by rw[<-e5];rfl
   rw[e6];refine zcv (qf6 l B d w5 h5.rowL (λz U=>by have:=hz z U;omega) Oo) ?_;rintro v w7 ⟨rfl,aa⟩;have h7:=h5.call aa;(conv=>whnf);refine h7.st Js _ ?_;intro w8 h8;(conv=>whnf);exact .inr ⟨Z,x,rfl,rfl,by omega,h8.cut⟩
theorem q0i{rest:List DB}{vs es:List DB}(h:RQ w0 w O rb tb rest a0 vs es [])(hn:rest.length<=1000000):
  Gv DM 359 [pp rb,pp tb] w λv w'=>v=.bool (decide (rest.tail≠[])&&rest.tail.all qj3)/\RQ w0 w' O rb tb rest a0 vs es []:=by
 refine ze Tryz.func359 Tryz.ntmps359 ?_;refine h.ldr ?_;intro A c hS hc;(conv=>whnf);refine zcv (qf6 rest A c w hS h.small hn) ?_;rintro v w1 ⟨rfl,aa⟩;have h1:=h.call aa;(conv=>whnf);refine h1.st Js _ ?_;intro w2 h2;(conv=>whnf);refine h2.ldr ?_;intro A2 c2 af ag;(conv=>whnf);refine zC (λ_=>zw ?_) (λ_=>zw ?_)
 ·have:rest.tail=[]:=CX.1 (by rw[Cj];omega);rw[this];exact⟨rfl,h2⟩
 ·have ht:rest.tail≠[]:=λe=>by have:=Ad List.length e;rw[Cj]at this;simp at this;omega
  rw[At ht,Ct];refine qq (λi:Nat=>[(0,pp rb),(1,pp tb),(5,ii (i+1:Nat))])
   (λi w3=>RQ w0 w3 O rb tb rest a0 vs es []/\i<=rest.tail.length/\(rest.tail.take i).all qj3=true)
   (λi=>rest.tail.length-i) 0 fq ⟨h2,by simp,rfl⟩ ?_
  rintro i w3 ah ⟨U,hi,ha⟩;rw[Cj]at hi|-;(conv=>whnf);refine U.ldr ?_;intro A3 c3 ai aj;(conv=>whnf);refine zC (λ_=>zw ?_) (λ_=>zw ?_)
  ·refine U.ldr ?_;intro A4 c4 ad ak;(conv=>whnf);have V:i+1<rest.length:=by omega
   have Z:i<rest.tail.length:=by rw[Cj];omega
   have hx:=U.small _ (AK V);have eg:rest.tail[i]=rest[i+1]:=by rw[List.getElem_tail]
   refine ElemV.sl ad rfl (i+1) rfl V ?_;intro b off ae;(conv=>whnf);refine LoadV.cell0 ae (zw ?_);refine zcv (qhg _ 1 8 Oo w3) ?_;rintro v w4 ⟨rfl,rfl⟩;cases q:qac rest[i+1] 1 8 false
   ·refine zu ?_;refine⟨?_,U⟩;have:rest.tail.all qj3=false:=by
     rw[CE];exact⟨_,AK Z,by rw[eg,qj3,q];simp⟩
    rw[this]
   ·refine zu ?_;refine⟨i+1,fq,⟨U,by first|omega|(rw[Cj];omega),?_⟩,by first|omega|(rw[Cj];omega)⟩;rw[AP Z,CR,ha,eg];simp[qj3,q]
  ·rw[Aj (by rw[Cj];omega)]at ha;rw[ha];exact⟨rfl,U⟩
def qgj(e:DB):DB:=lowS (e.extract 0 1)
def jnS(l:List DB):DB:=⟨(jn l).toArray⟩
theorem q8y{x:DB}{l:List DB}(U:x.size=1):1<=(jnS (x::l)).size/\qgj (jnS (x::l))=lowS x:=by
 obtain⟨⟨c⟩⟩:=x;have V:c.length=1:=U;obtain⟨b,rfl⟩:=List.length_eq_one_iff.1 V;refine⟨by show 1<=(jn _).toArray.size;simp[jn],?_⟩;unfold qgj
 congr 1
 have:(jnS (⟨⟨[b]⟩⟩::l)).extract 0 1=(⟨⟨[b]⟩⟩:DB):=by
  have h:=qo0 (l:=[(jnS (⟨⟨[b]⟩⟩::l)).extract 0 1]) (m:=[⟨⟨[b]⟩⟩]) (by rw[AB,qo8];simp[jnS,jn])
  simpa using h
 exact this
theorem ql{v:DF}(h:vals k=v):vals=upd vals k v:=by
 funext j
 by_cases e:j=k
 ·subst e;rw[qcy,h]
 ·rw[qa2 _ _ _ _ e]
theorem RQ.cell5{rest:List DB}{vs es:List DB}(h:RQ w0 w O rb tb rest a0 vs es R2):
  ∃A c,SlAt V.zeS 1 w A es/\w.cell? ⟨tb,5,none⟩=some (.slice A es.length c):=by
 obtain⟨A,c,X,Y,a1,a2,a3,a6,L,h⟩:=h;obtain⟨B,d,e⟩:=(h.rows.row 1 _ rfl).slice;simp only[A6]at e;subst e;exact⟨B,d,RowB.sl (h.rows.row 1 _ rfl) h.mem,by rw[qa (h.mem.get h.tg)];rfl⟩
theorem qrr{x:DB}{xs:List DB}{vs es:List DB}(h:RQ w0 w O rb tb (x::xs) a0 vs es [])(bd:x.size=1)(ax:∀e∈es,1<=e.size)(hn:xs.length+es.length+1<=1000000):
  Gv DM 358 [pp rb,pp tb] w λv w'=>Ext w0 w'/\
   (((xs.takeWhile extQ=[]\/∃e∈es,qgj e=lowS x)/\v=.bool false)\/
   (¬(xs.takeWhile extQ=[]\/∃e∈es,qgj e=lowS x)/\v=.bool true/\RQ w0 w' O rb tb (xs.dropWhile extQ) a0 vs (es++[jnS (x::xs.takeWhile extQ)]) [])):=by
 refine ze Tryz.func358 Tryz.ntmps358 ?_;refine zcv (qby h) ?_;rintro v w1 ⟨rfl,h1⟩;(conv=>whnf);refine NewV.rqrow h1 λnb w2 h2=>zw ?_;refine qq (λy:List DB×List DB×oA×Nat=>[(0,pp rb),(1,pp tb),(5,.slice y.2.2.1 (x::y.1).length y.2.2.2)])
  (λy w5=>RQ w0 w5 O rb tb y.2.1 a0 vs es [((x::y.1).map Value.string,.slice y.2.2.1 (x::y.1).length y.2.2.2)]/\xs=y.1++y.2.1/\y.1.all extQ=true)
  (λy=>y.2.1.length) ([],xs,some ⟨nb,0,none⟩,1) fq ⟨h2,rfl,rfl⟩ ?_
 rintro⟨pre,r5,B,d⟩ w5 ay ⟨h5,e5,a5⟩;simp only at h5 e5 a5;dsimp only;have am:xs.length=pre.length+r5.length:=by rw[e5];simp
 have tk:∀ys,r5=ys->(∀y zs,ys=y::zs->extQ y=false)->xs.takeWhile extQ=pre/\xs.dropWhile extQ=ys:=by
  rintro ys rfl az;have ha:=Cv.1 a5;rw[e5,List.takeWhile_append_of_pos ha,List.dropWhile_append_of_pos ha];cases r5 with
  | nil=>simp
  | cons y zs=>simp[az y zs rfl]
 (conv=>whnf);refine h5.ldr ?_;intro A c hS hc
 rcases r5 with _|⟨y,ys⟩
 case' cons=>
  simp only[Au]at hc am|-;(conv=>whnf);refine Tst.yes (At Oo) (zu ?_);refine h5.ldr ?_;intro A c hS hc;refine zu ?_;refine ElemV.sl hS rfl 0 rfl Js ?_;intro b off an;refine zu ?_;refine LoadV.cell0 an (zu ?_);have hy:=h5.small y mh;refine zcv (qhg y 2 8 Oo w5) ?_;rintro v w6 ⟨rfl,rfl⟩;cases q:qac y 2 8 false
  case' true=>
   refine zu ?_;refine zcv (qby h5) ?_;rintro v w7 ⟨rfl,h7⟩;(conv=>whnf);refine NewV.rq h7 λnb w8 h8 Z=>zw ?_;refine h8.appL Z Ys ?_;intro B' d' w9 h9;(conv=>whnf);exact⟨(pre++[y],ys,B',d'),⟨rfl,rfl,by simp only[zla,Au];rfl,trivial⟩,⟨h9,by rw[e5];simp,by rw[CR,a5];simp[extQ,q]⟩,by simp⟩
  case' false=>
   obtain⟨t1,t2⟩:=tk _ rfl (λy' zs e=>by cases e;exact q);clear hy;obtain⟨r6,h5,t2⟩:∃r6,RQ w0 _ O rb tb r6 a0 vs es [((x::pre).map Value.string,.slice B (x::pre).length d)]/\xs.dropWhile extQ=r6:=⟨_,h5,t2⟩
   rw[t1,t2];clear tk hS an q;refine zu ?_
 case' nil=>
  (conv=>whnf);refine Tst.no (Ax Js) (zu ?_);obtain⟨t1,t2⟩:=tk _ rfl (λy' zs e=>by cases e);obtain⟨r6,h5,t2⟩:∃r6,RQ w0 _ O rb tb r6 a0 vs es [((x::pre).map Value.string,.slice B (x::pre).length d)]/\xs.dropWhile extQ=r6:=⟨_,h5,t2⟩
  rw[t1,t2];clear tk hS
 all_goals
  have a4:=h.small x mh;have be:pre.length<=xs.length:=by omega
  have a7:(x::pre).length=pre.length+1:=rfl;refine qq (λi:Nat=>[(0,pp rb),(1,pp tb),(5,.slice B (x::pre).length d),(7,ii i)])
   (λi w6=>RQ w0 w6 O rb tb r6 a0 vs es [((x::pre).map Value.string,.slice B (x::pre).length d)]/\i<=es.length/\∀(j:Nat) (hj:j<es.length),j<i->qgj es[j]≠lowS x)
   (λi=>es.length-i) 0 fq ⟨h5,by omega,λj hj h0=>by omega⟩ ?_
  rintro i w6 ay ⟨h6,hi,hd⟩;(conv=>whnf);obtain⟨EA,ec,ao,af⟩:=h6.cell5;refine LoadV.of af (zw ?_)
  (repeat' refine zC (λ_=>zw ?_) (λ_=>zw ?_))
  ·have aa:i<es.length:=by omega
   have bf:=ax _ (AK aa);obtain⟨eb,aq,rfl,ag⟩:=ao.at_ (λe=>by rw[e]at aa;simp at aa);have ag:=ag i _ (zge aa);obtain⟨lb,ar,e9,ah⟩:=h6.rowL.at_ Js;subst e9;have ah:=ah 0 x rfl;refine DrawV.free rfl Jk (zw ?_);(iterate 3 (refine zd ?_));refine zf ?_ (by intro wd hd;(conv=>whnf);refine LoadV.of (Ext.cell (Ext.trans (Ext.drew xr) hd) af) ?_;(conv=>whnf);exact xq);refine zd ?_;refine zf ?_ (by intro wd hd;(conv=>whnf);refine⟨⟨eb,aq,i,rfl,by omega,by omega,?_⟩⟩;exact xq);refine zf ?_ (by intro wd hd;(conv=>whnf);refine LoadV.of (Ext.cell (Ext.trans (Ext.drew xr) hd) (ag 0 _ rfl)) ?_;(conv=>whnf);exact xq);refine zsd (.string (es[i].extract 0 1)) (λwd hd=>zw ?_) (zw ?_)
   ·refine⟨0,1,rfl,rfl,by omega,by omega,?_⟩;(conv=>whnf);exact xq
   refine zsd (.string (qgj es[i])) (λwd hd=>zw ?_) (zw ?_)
   ·refine zcv (qbf (es[i].extract 0 1) (by rw[Bm];omega) wd) ?_;rintro v w7 ⟨rfl,ad⟩;exact⟨ad,rfl⟩
   refine zd ?_;refine zf ?_ (by intro wd hd;(conv=>whnf);refine⟨⟨lb,ar,0,rfl,by omega,by omega,?_⟩⟩;exact xq);refine zf ?_ (by intro wd hd;(conv=>whnf);refine LoadV.of (Ext.cell (Ext.trans (Ext.drew xr) hd) (ah 0 _ rfl)) ?_;(conv=>whnf);exact xq);refine zsd (.string (lowS x)) (λwd hd=>zw ?_) (zw ?_)
   ·refine zcv (qbf x Oo wd) ?_;rintro v w7 ⟨rfl,ad⟩;exact⟨ad,rfl⟩
   refine zd ?_;intro wd a8;have h7:=h6.drew.call a8;(conv=>whnf);cases q:seq (qgj es[i]) (lowS x)
   ·refine zu ?_;refine⟨i+1,fq,⟨h7,by omega,λj hj bg=>?_⟩,by omega⟩
    by_cases e:j=i
    ·subst e;intro e';rw[qab.2 e']at q;cases q
    ·exact hd j hj Oo
   ·refine zu ?_;exact⟨h7.ext,.inl ⟨.inr ⟨_,AK aa,qab.1 q⟩,rfl⟩⟩
  ·have a9:¬ ∃e∈es,qgj e=lowS x:=by
    rintro⟨e,he,h9⟩;obtain⟨j,hj,rfl⟩:=BN.1 he;exact hd j hj Oo h9
   obtain⟨A,c,X,Y,a1,a2,a3,a6,L,h6⟩:=h6;obtain⟨EA,ec,e⟩:=(h6.rows.row 1 _ rfl).slice;simp only[A6]at e;subst e;clear ao af;obtain⟨J,hJ⟩:∃J,J=jnS (x::pre):=⟨_,rfl⟩
   obtain⟨rr,au⟩:∃rr:List (DK×DF),rr=[((x::pre).map Value.string,.slice B (x::pre).length d)]:=⟨_,rfl⟩
   have ba:∀z∈x::pre,z.size<=1000000:=λz hz=>by
    rcases Ay.1 hz with rfl|hz
    ·exact a4
    ·exact h.small z (zmc (by rw[e5];exact Ah _ hz))
   rw[<-au]at h6;rw[<-hJ];refine DrawV.gen (λS vals w=>bif S 11 then(S 4=true/\S 6=true/\S 7=true/\S 8=true/\RQ w0 w O rb tb r6 a0 vs (es++[J]) rr)
    else bif S 8 then(S 4=true/\S 6=true/\S 7=true/\∃B' d' L',vals 8=.slice B' (es.length+1) d'/\RQ0 w0 w O rb tb r6 a0 vs (es++[J]) A c X (.slice B' (es.length+1) d') X (.slice EA es.length ec) a1 a2 a3 a6 L' rr)
    else bif S 7 then(S 6=true/\∃nb,vals 7=.slice (some ⟨nb,0,none⟩) 1 1/\w.heap[nb]?=some (.cells #[.string J] 9)/\RQ0 w0 w O rb tb r6 a0 vs es A c X (.slice EA es.length ec) X (.slice EA es.length ec) a1 a2 a3 a6 L rr)
    else RQ0 w0 w O rb tb r6 a0 vs es A c X (.slice EA es.length ec) X (.slice EA es.length ec) a1 a2 a3 a6 L rr) rfl Jk (λvals=>h6.call xr.drew) ?_
   (conv=>whnf);(iterate 4 (refine zg ?_))
   ·
    refine StepG.of (.slice EA es.length ec) (λS vals wd hk hp U=>?_) (zw ?_)
    ·dsimp only at U;cases V:S 11
     ·rw[V]at U;cases h8:S 8
      ·rw[h8]at U;cases h7:S 7
       ·rw[h7]at U;(conv=>whnf);refine LoadV.own (U.mem.get U.tg) rfl (zw ?_);refine⟨rfl,?_⟩;show bif S 11 then _ else bif S 8 then _ else bif S 7 then _ else _;rw[V,h8,h7];exact U
       ·rw[h7]at U;obtain⟨i6,nb,e7,Z,hQ⟩:=U;(conv=>whnf);refine LoadV.own (hQ.mem.get hQ.tg) rfl (zw ?_);refine⟨rfl,?_⟩;show bif S 11 then _ else bif S 8 then _ else bif S 7 then _ else _;rw[V,h8,h7];exact⟨i6,nb,e7,Z,hQ⟩
      ·rw[h8]at U;have:=U.1;rw[hk]at this;cases this
     ·rw[V]at U;have:=U.1;rw[hk]at this;cases this
    refine zg ?_;refine StepG.of (.string J) (λS vals wd hk hp U=>?_) (zw ?_)
    ·dsimp only at U;cases V:S 11
     ·rw[V]at U;cases h8:S 8
      ·rw[h8]at U;cases h7:S 7
       ·rw[h7]at U;(conv=>whnf);have av:=U;rw[au]at av;refine zcv (qf6 (x::pre) B d wd av.rowL ba Ys) ?_;rintro v w7 ⟨rfl,ad⟩;refine⟨by rw[hJ];rfl,?_⟩;show bif S 11 then _ else bif S 8 then _ else bif S 7 then _ else _;rw[V,h8,h7];exact U.call ad
       ·rw[h7]at U;have:=U.1;rw[hk]at this;cases this
      ·rw[h8]at U;have:=U.2.1;rw[hk]at this;cases this
     ·rw[V]at U;have:=U.2.1;rw[hk]at this;cases this
    refine StepG.any (λS vals wd hk hp U=>?_) (zw ?_)
    ·dsimp only at U;have ai:=hp 6 Od;cases V:S 11
     ·rw[V]at U;cases h8:S 8
      ·rw[h8]at U;rw[hk]at U;(conv=>whnf);refine NewV.rq0 U λnb w8 bb Z=>zw ?_;refine⟨trivial,?_⟩;show bif S 11 then _ else bif S 8 then _ else bif true then _ else _;rw[V,h8];exact⟨ai,nb,rfl,Z,bb⟩
      ·rw[h8]at U;have:=U.2.2.1;rw[hk]at this;cases this
     ·rw[V]at U;have:=U.2.2.1;rw[hk]at this;cases this
    refine StepG.any (λS vals wd hk hp U=>?_) (zw ?_)
    ·dsimp only at U;have aj:=hp 4 Od;have ae:=hp 7 Od;cases V:S 11
     ·rw[V]at U;rw[hk]at U;rw[ae]at U;obtain⟨i6,nb,e7,Z,hQ⟩:=U;rw[ql e7];(conv=>whnf);refine hQ.app5 Z Oo ?_;intro B' d' w8 L' ak;(conv=>whnf);refine⟨trivial,?_⟩;show bif S 11 then _ else bif true then _ else bif S 7 then _ else _;rw[V];exact⟨aj,i6,ae,B',d',L',rfl,ak⟩
     ·rw[V]at U;have:=U.2.2.2.1;rw[hk]at this;cases this
    refine zg ?_;refine zg ?_;refine StepG.of undef (λS vals wd hk hp U=>?_) (zw ?_)
    ·dsimp only at U;have aw:=hp 8 Od;rw[hk]at U;rw[aw]at U;obtain⟨aj,ai,ae,B',d',L',e8,hQ⟩:=U;rw[ql e8];(conv=>whnf);refine hQ.st5 ?_;intro w8 ak;(conv=>whnf);exact⟨rfl,aj,ai,ae,aw,ak⟩
    intro vals wd U;obtain⟨_,_,_,_,hQ⟩:=U;(conv=>whnf);refine⟨hQ.ext,?_⟩
    by_cases al:pre=[]
    ·subst al;exact .inl ⟨.inl rfl,rfl⟩
    ·have:0<pre.length:=Cf.2 al;exact .inr ⟨λh9=>h9.elim al a9,by rw[a7,At Oo],hQ.cut⟩
theorem qxz(x:DB):seq (lowS x) ⟨#[120]⟩=qft x:=by
 rw[AD,qab];obtain⟨⟨l⟩⟩:=x;unfold qft lowS;simp only[decide_eq_true_eq]
 constructor
 ·intro h;have h:l.map lowB=[120]:=by
   simp_all
  obtain⟨c,rfl⟩:∃c,l=[c]:=List.length_eq_one_iff.1 (by have:=Ad List.length h;simp_all);simp only[AB,B4,List.cons.injEq,and_true]at h;unfold lowB at h
  split at h
  all_goals grind
 ·rintro(h|h)
  ·cases h;rfl
  ·cases h;rfl
theorem qva{x:DB}(h:qft x=true):varB x=false/\extS x=false:=by
 have U:x.size=1:=by
  unfold qft at h;simp at h
  rcases h with rfl|rfl<;>rfl
 grind [extS,varB,qac]
section
variable {w0 w w':DA} {O:DL} {rb tb:Nat} {rest:List DB} {a0:DB} {vs es:List DB} {R2:List (DK×DF)}
theorem RQ.cell4(h:RQ w0 w O rb tb rest a0 vs es R2):∃A c,SlAt V.zeS 1 w A vs/\w.cell? ⟨tb,4,none⟩=some (.slice A vs.length c):=by
 obtain⟨A,c,X,Y,a1,a2,a3,a6,L,h⟩:=h;obtain⟨B,d,e⟩:=(h.rows.row 0 _ rfl).slice;simp only[A6]at e;subst e;exact⟨B,d,RowB.sl (h.rows.row 0 _ rfl) h.mem,by rw[qa (h.mem.get h.tg)];rfl⟩
theorem RQ.ldA{K:DK->Prop}(h:RQ w0 w O rb tb rest a0 vs es R2)(hk:∀U V s2 Z A n c A' n' c' s6,(∀u∈[Value.string U,.string V,.string s2,.string Z,.slice A n c,.slice A' n' c',.string s6],u.oneCell'=true)->K [.string U,.string V,.string s2,.string Z,.slice A n c,.slice A' n' c',.string s6]):LoadA w tb 0 7 K:=by
 obtain⟨A,c,X,Y,a1,a2,a3,a6,L,h⟩:=h;obtain⟨B,d,e⟩:=(h.rows.row 0 _ rfl).slice;obtain⟨B',d',e'⟩:=(h.rows.row 1 _ rfl).slice;simp only[A6]at e e';subst e e';refine⟨_,rfl,λi hi=>?_,hk a0 a1 a2 a3 B vs.length d B' es.length d' a6 (tag7 ⟨⟨_,_,_,rfl⟩,⟨_,_,_,rfl⟩⟩ a0 a1 a2 a3 a6)⟩;rw[qa (h.mem.get h.tg),An,As];rfl
end
theorem q4q(s:DB):(lowS s).size=s.size:=by
 show(s.data.toList.map lowB).toArray.size=s.size;simp
theorem V.later{A B:Prop}(h:A->B)(p:A):B:=h p
theorem qma(x:DB)(xs:List DB):regB x=(qfm 2 2 false (x::xs)||qfm 3 3 true (x::xs)):=by
 rw[qc2,regB]
 congr 1
 by_cases U:x.size=3
 ·have e:digA x=(digN (gb x 0).toNat&&digN (gb x 1).toNat&&digN (gb x 2).toNat):=by
   unfold digA;have V:=qa8 x 0 Oo;have Z:=qa8 x 1 Oo
   simp_all[qa8,AC,Bool.and_assoc]
  grind [qfm]
 grind [qfm]
theorem q02(s:DB)(hs:s.size<=65536)(w:DA):
  Gv DM 311 [.string s] w λv w'=>TagV (qbi s) v/\Ext w w':=by
 obtain⟨p1,p2⟩:=qn8 s;have p0:qbi s≠[]:=(by grind [qn7])
 have ak:=qs6 s Oo;obtain⟨l,hl⟩:∃l,l=qbi s:=⟨_,rfl⟩
 rw[<-hl]at p1 p2 p0 ak|-;refine ze Tryz.func311 Tryz.ntmps311 ?_;refine znm (Mem.nil w) λrt w1 ai=>zw ?_;refine znm (Mem.nil w1) λtb w2 aw=>zw ?_;refine zcv (ak w2) ?_;rintro v w3 ⟨A,c,rfl,hR⟩;(conv=>whnf);have cd:tb<w2.heap.size:=aw.lt mh
 rcases hR.own.2 with⟨_,e2⟩|⟨g,ce,cur,e1,bo,hg,bp,_,bq,br⟩
 ·exact absurd (by grind) p0
 cases e1;rw[Bx]at br bq;have a9:=(aw.call hR.mem.ext).add hg (AE aw.ext.size bo) (by grind);refine znm a9 ?_;intro rb w4 ax;have bt:rb≠g/\rb≠tb:=by
  have:=ax.nodup
  simp_all
 have h4:RQ w1 w4 [rb,g,tb] rb tb l ⟨#[]⟩ [] [] []:=by
  refine⟨_,_,.slice none 0 0,.slice none 0 0,⟨#[]⟩,⟨#[]⟩,⟨#[]⟩,⟨#[]⟩,_,ax,Js,zmc (zmc mh),RowsP.nils _ _ _ _ Js,λ_=>⟨g,cur,0,rfl,by simp,Oo,λe=>?_,Js,λj x hj=>?_⟩,bp,by simp,by simp,bt.2,λk hk=>?_,(by grind)⟩
  ·omega
  ·have h9:(cur.toList.take l.length)[j]?=some (.string x):=by simp_all
   grind
  grind
 clear ax a9 hR hg;generalize hO:[rb,g,tb]=O at h4;(conv=>whnf);refine h4.ldr ?_;intro A c hS hc;obtain⟨x,xs,au⟩:∃x xs,l=x::xs:=by
  cases l<;>grind
 (conv=>whnf);refine ElemV.sl hS rfl 0 rfl (by grind) ?_;intro b off aj;(conv=>whnf);refine LoadV.cell0 aj ?_;have bu:l[0]'(by grind)=x:=by grind
 have cf:=p1 x (by rw[au];simp);rw[bu];(conv=>whnf);refine zcv (qbf x Oo w4) ?_;rintro v w5 ⟨rfl,ba⟩;have h5:=h4.call ba;clear aj hS hc h4 ba;(conv=>whnf);rw[qxz];obtain⟨F,hF⟩:∃F:List DB×List DB×DB->List (Nat×DF),F=λ_=>[(2,pp rt),(4,pp tb),(5,pp rb)]:=⟨_,rfl⟩
 obtain⟨I,hI⟩:∃I:List DB×List DB×DB->DA->Prop,I=λy w6=>RQ w1 w6 O rb tb y.2.1 y.2.2 y.1 [] []/\tagR l=(qii (y.1.map lowS) y.2.1).bind (λr=>extN r.2.length r.1 r.2)/\(∀v∈y.1,4<=v.size/\v.size<=1000000)/\y.1.length+y.2.1.length<=l.length:=⟨_,rfl⟩
 obtain⟨mm,ay⟩:∃mm:List DB×List DB×DB->Nat,mm=λy=>y.2.1.length:=⟨_,rfl⟩
 apply V.later
 case h=>
  intro aa;cases q:qft x
  ·refine zv ?_;refine zcv (qus h5) ?_;have hT:tagR l=(qer l).bind qi8:=by
    rw[tagR,Aa (by rw[au];show ¬qft x=true;rw[q];simp)]
   rintro v w6 (⟨e2,rfl,bv⟩|⟨r1,b0,e2,rfl,cg,h6⟩)
   ·rw[e2]at hT;have ad:¬tagP l:=λh=>by obtain⟨l1,h1,_⟩:=h;rw[hT]at h1;cases h1
    refine zu ?_;refine StoreA.mem (ai.call bv) (i:=0) rfl (Ai 7) qek λw9 Z=>zw ?_;refine qd (R:=λv w'=>TagV l v/\Ext w w') (zw ?_);refine zl Z 0 ?_;exact⟨⟨_,_,_,_,_,_,_,qek,by rw[qdx ad];rfl⟩,Z.ext⟩
   rw[e2]at hT;have hb:seq b0 ⟨#[]⟩=false:=by rw[qtf];exact Ax Oo
   refine zu ?_;refine h6.ld0 (zw ?_);rw[hb];refine zv ?_;have ci:=qll e2;refine zcv (qi7 4 4 false h6) ?_;rintro v w7 ⟨rfl,h7⟩;(conv=>whnf);cases q1:qfm 4 4 false r1
   case' false=>
    obtain⟨r2,h8,av,bw⟩:∃r2,RQ w1 w7 O rb tb r2 b0 [] [] []/\qd9 r1=r2/\r2.length<=r1.length:=by
     refine⟨r1,h7,?_,Ai _⟩;cases r1 with
     | nil=>rfl
     | cons y U=>
      rw[qc2]at q1;rw[qd9,Aa (by rw[q1];simp)]
    clear h7 q1 h6;refine zv ?_
   case' true=>
    obtain⟨y,U,rfl⟩:∃y U,r1=y::U:=by
     cases r1 with
     | nil=>cases q1
     | cons y U=>exact⟨y,U,rfl⟩
    rw[qc2]at q1;refine zv ?_;refine zcv (qby h7) ?_;rintro v w8 ⟨rfl,h8⟩;(conv=>whnf);refine h8.st Js _ ?_;intro w7 h9;obtain⟨r2,h8,av,bw⟩:∃r2,RQ w1 w7 O rb tb r2 b0 [] [] []/\qd9 (y::U)=r2/\r2.length<=(y::U).length:=⟨U,h9,by rw[qd9,Ab q1],by simp⟩
    clear h7 q1 h6 h9;conv=>whnf
   all_goals
    refine h8.ld0 (zw ?_);rw[hb];refine zv ?_;refine zcv (qi7 2 2 false h8) ?_;rintro v w9 ⟨rfl,h9⟩;(conv=>whnf);cases q2:qfm 2 2 false r2
    ·refine zv ?_;refine zcv (qi7 3 3 true h9) ?_;rintro v al ⟨rfl,ae⟩;cases q3:qfm 3 3 true r2
     ·have er:qc9 r2=r2:=by
       cases r2 with
       | nil=>rfl
       | cons y U=>rw[qc9,Aa (by rw[qma,q2,q3];simp)]
      refine zu ?_;refine qq F I mm ([],r2,b0) (by rw[hF];exact fq) (by rw[hI];exact⟨ae,by rw[hT];show qi8 _=_;rw[qi8,av,er];rfl,by simp,by simp only[B6];omega⟩) aa
     ·obtain⟨y,U,rfl⟩:∃y U,r2=y::U:=by
       cases r2 with
       | nil=>cases q3
       | cons y U=>exact⟨y,U,rfl⟩
      have er:qc9 (y::U)=U:=by rw[qc9,Ab (by rw[qma,q3];simp)]
      refine zu ?_;refine zcv (qby ae) ?_;rintro v az ⟨rfl,ag⟩;(conv=>whnf);refine ag.st Js _ ?_;intro bb am;(conv=>whnf);refine qq F I mm ([],U,b0) (by rw[hF];exact fq) (by rw[hI];exact⟨am,by rw[hT];show qi8 _=_;rw[qi8,av,er];rfl,by simp,by simp only[B6,Au]at *;omega⟩) aa
    ·obtain⟨y,U,rfl⟩:∃y U,r2=y::U:=by
      cases r2 with
      | nil=>cases q2
      | cons y U=>exact⟨y,U,rfl⟩
     have er:qc9 (y::U)=U:=by rw[qc9,Ab (by rw[qma,q2];simp)]
     refine zu ?_;refine zcv (qby h9) ?_;rintro v az ⟨rfl,ag⟩;(conv=>whnf);refine ag.st Js _ ?_;intro bb am;(conv=>whnf);refine qq F I mm ([],U,b0) (by rw[hF];exact fq) (by rw[hI];exact⟨am,by rw[hT];show qi8 _=_;rw[qi8,av,er];rfl,by simp,by simp only[B6,Au]at *;omega⟩) aa
  ·have hT:tagR l=(qii [] l).bind λr=>extN r.2.length r.1 r.2:=by
    rw[tagR,Ab (by rw[au];exact q),au,qii,Aa (by rw[(qva q).1];simp)];show _=extN (xs.length+1) [] (x::xs);rw[extN,Aa (by rw[(qva q).2];simp)]
   have hb:seq ⟨#[]⟩ ⟨#[]⟩=true:=by rfl
   refine zv ?_;refine h5.ld0 (zw ?_);rw[hb];refine zv ?_;refine h5.ld0 (zw ?_);rw[hb];refine zv ?_;refine qq F I mm ([],l,⟨#[]⟩) (by rw[hF];exact fq) (by rw[hI];exact⟨h5,hT,by simp,by simp⟩) aa
 case p=>
  subst hF hI ay;rintro⟨vs,r3,b0⟩ w6 cj ⟨h6,hT,a4,af⟩;simp only at h6 hT a4 af;dsimp only;obtain⟨F,hF⟩:∃F:Nat×List DB×List DB->List (Nat×DF),F=λ_=>[(2,pp rt),(4,pp tb),(5,pp rb)]:=⟨_,rfl⟩
  obtain⟨I,hI⟩:∃I:Nat×List DB×List DB->DA->Prop,I=λy w6=>RQ w1 w6 O rb tb y.2.1 b0 vs y.2.2 []/\tagR l=extN y.1 (vs.map lowS++y.2.2.map qgj) y.2.1/\y.2.1.length<=y.1/\(∀e∈y.2.2,1<=e.size)/\y.2.1.length+y.2.2.length<=l.length:=⟨_,rfl⟩
  obtain⟨mm,ay⟩:∃mm:Nat×List DB×List DB->Nat,mm=λy=>y.2.1.length:=⟨_,rfl⟩
  apply V.later
  case h=>
   intro aa;(conv=>whnf);refine h6.ldr ?_;intro A c hS hc;conv=>whnf
   rcases r3 with _|⟨y,U⟩
   ·refine Tst.no (Ax Js) (zu ?_);refine qq F I mm (0,[],[]) (by rw[hF];exact fq) (by rw[hI];exact⟨h6,by rw[hT];rfl,Ai _,by simp,by simp⟩) aa
   ·simp only[Au]at hc af|-;refine Tst.yes (At Oo) (zu ?_);refine h6.ldr ?_;intro A c hS hc;refine zu ?_;refine ElemV.sl hS rfl 0 rfl Js ?_;intro b off aj;refine zu ?_;refine LoadV.cell0 aj (zu ?_);have hy:=h6.small y mh;refine zcv (qnf y Oo w6) ?_;rintro v w7 ⟨rfl,rfl⟩;cases q:varB y
    ·rw[qii,Aa (by rw[q];simp)]at hT;refine zu ?_;refine qq F I mm ((y::U).length,y::U,[]) (by rw[hF];exact fq) (by rw[hI];exact⟨h6,by rw[hT];simp,Ai _,by simp,by simp;omega⟩) aa
    ·rw[qii,Ab q]at hT;have bz:4<=y.size:=by
      simp[varB,qac]at q;omega
     refine zu ?_;refine zcv (qby h6) ?_;rintro v w8 ⟨rfl,h8⟩;(conv=>whnf);refine qq (λi:Nat=>[(2,pp rt),(4,pp tb),(5,pp rb),(7,.string y),(8,ii i)])
      (λi w9=>RQ w1 w9 O rb tb U b0 vs [] []/\i<=vs.length/\∀(j:Nat) (hj:j<vs.length),j<i->lowS vs[j]≠lowS y)
      (λi=>vs.length-i) 0 fq ⟨h8,by omega,λj hj h0=>by omega⟩ ?_
     rintro i w9 b1 ⟨h9,hi,hd⟩;(conv=>whnf);obtain⟨VA,vc,bd,an⟩:=h9.cell4;refine LoadV.of an (zw ?_);refine zC (λ_=>zw ?_) (λ_=>zw ?_)
     ·have a5:i<vs.length:=by omega
      have ck:=a4 _ (AK a5);refine LoadV.of an (zw ?_);refine ElemV.sl bd rfl i rfl a5 ?_;intro b2 be ao;(conv=>whnf);refine LoadV.cell0 ao (zw ?_);refine zcv (qbf vs[i] Oo w9) ?_;rintro v al ⟨rfl,aq⟩;(conv=>whnf);refine zcv (qbf y Oo al) ?_;rintro v az ⟨rfl,bf⟩;have ag:=(h9.call aq).call bf;cases q2:seq (lowS vs[i]) (lowS y)
      ·(conv=>whnf);rw[q2];refine zv ?_;refine⟨i+1,fq,⟨ag,by omega,λj hj cl=>?_⟩,by omega⟩
       by_cases e:j=i
       ·subst e;intro e';rw[qab.2 e']at q2;cases q2
       ·exact hd j hj Oo
      ·have b4:lowS y∈vs.map lowS:=AA.2 ⟨_,AK a5,qab.1 q2⟩;rw[Ab b4]at hT;have ad:¬tagP l:=λh=>by obtain⟨l1,h1,_⟩:=h;rw[hT]at h1;cases h1
       (conv=>whnf);rw[q2];refine zv ?_;refine StoreA.mem (ai.call ag.ext) (i:=0) rfl (Ai 7) qek λw9 Z=>zw ?_;refine qd (R:=λv w'=>TagV l v/\Ext w w') (zw ?_);refine zl Z 0 ?_;exact⟨⟨_,_,_,_,_,_,_,qek,by rw[qdx ad];rfl⟩,Z.ext⟩
     ·have ad:lowS y∉vs.map lowS:=by
       intro h0;obtain⟨z,hz,e⟩:=AA.1 h0;obtain⟨j,hj,rfl⟩:=BN.1 hz;exact hd j hj Oo e
      rw[Aa ad]at hT;clear bd an;obtain⟨A,c,X,Y,a1,a2,a3,a6,L,h9⟩:=h9;obtain⟨VA,vc,e⟩:=(h9.rows.row 0 _ rfl).slice;simp only[A6]at e;subst e;refine LoadV.own (h9.mem.get h9.tg) rfl (zw ?_);refine NewV.rq0 h9 λnb al ae b5=>zw ?_;refine ae.app4 b5 Oo ?_;intro B' d' az L' ag;(conv=>whnf);refine ag.st4 ?_;intro bb am;(conv=>whnf);refine⟨(vs++[y],U,b0),fq,⟨am,by rw[hT,AH];rfl,?_,by simp;omega⟩,by simp⟩;intro v hv
      rcases AU.1 hv with hv|hv
      ·exact a4 v hv
      ·obtain rfl:=Aq.1 hv;exact⟨bz,hy⟩
  case p=>
   subst hF hI ay;clear hT h6 af;rintro⟨k,r5,es⟩ w7 b1 ⟨h7,hT,hk,bg,af⟩;simp only at h7 hT hk bg af;dsimp only;have stop:∀z zs,r5=z::zs->extS z=false->tagR l=some r5:=by
    rintro z zs rfl hz;obtain⟨k,rfl⟩:∃k',k=k'+1:=⟨k-1,by grind⟩
    grind [extN]
   (conv=>whnf);refine h7.ldr ?_;intro A c hS hc;conv=>whnf
   rcases r5 with _|⟨y,U⟩
   ·have hR:tagR l=some []:=by rw[hT];cases k<;>rfl
    refine Tst.no Js (zu ?_);refine h7.ldr ?_;intro A2 c2 bh b6;(conv=>whnf);refine Tst.no Js (zu ?_);refine h7.ldr ?_;intro A3 c3 bi bj;(conv=>whnf);refine zC (λ_=>zw ?_) (λ_=>zw ?_)
    ·rename_i hh;exact absurd hh Js
    refine h7.ldA ?_;intro s0 s1 s2 s3 A4 n4 c4 A5 n5 c5 s6 ah;(conv=>whnf);refine StoreA.mem (ai.call h7.ext) (i:=0) rfl (Ai 7) ah λw9 Z=>zw ?_;refine qd (R:=λv w'=>TagV l v/\Ext w w') (zw ?_);refine zl Z 0 ?_;exact⟨⟨_,_,_,_,_,_,_,ah,by rw[qmx ⟨[],hR,by rw[qo3,Aa (by simp[seeB])]⟩];rfl⟩,Z.ext⟩
   ·simp only[Au]at hc af hk|-;have hy:=h7.small y Js;refine Tst.yes Js (zu ?_);refine h7.ldr ?_;intro A c hS hc;refine zu ?_;refine ElemV.sl hS rfl 0 rfl Js ?_;intro b off aj;refine zu ?_;refine LoadV.cell0 aj (zu ?_);refine zcv (qbf y Oo w7) ?_;rintro v w8 ⟨rfl,b7⟩;have h8:=h7.call b7;refine zu ?_;rw[qxz];cases q:qft y
    ·refine zv ?_;refine h8.ldr ?_;intro A2 c2 bh b6;refine zu ?_;refine ElemV.sl bh rfl 0 rfl Js ?_;intro b2 be ao;refine zu ?_;refine LoadV.cell0 ao (zu ?_);refine zcv (qhg y 1 1 Oo w8) ?_;rintro v w9 ⟨rfl,rfl⟩;cases q1:qac y 1 1 false
     ·have hR:=stop y U rfl (by rw[extS,q1];rfl);have ad:¬tagP l:=λh=>by
       obtain⟨l1,h1,h2⟩:=h;rw[hR]at h1;cases h1;rw[qo3,Aa (by show ¬qft y=true;rw[q];simp)]at h2;cases h2
      refine zu ?_;refine h8.ldr ?_;intro A3 c3 bi bj;(conv=>whnf);refine Tst.yes Js (zu ?_);refine h8.ldr ?_;intro A4 c4 a7 an;refine zu ?_;refine ElemV.sl a7 rfl 0 rfl Js ?_;intro b3 bk ar;refine zu ?_;refine LoadV.cell0 ar (zu ?_);refine zcv (qbf y Oo _) ?_;rintro v w9 ⟨rfl,a8⟩;have h9:=h8.call a8;refine zu ?_;rw[qxz,q];refine zv ?_;refine h9.ldr ?_;intro A5 c5 cm cn;(conv=>whnf);refine Tst.yes Js (zw ?_);refine StoreA.mem (ai.call h9.ext) (i:=0) rfl (Ai 7) qek λw9 Z=>zw ?_;refine qd (R:=λv w'=>TagV l v/\Ext w w') (zw ?_);refine zl Z 0 ?_;exact⟨⟨_,_,_,_,_,_,_,qek,by rw[qdx ad];rfl⟩,Z.ext⟩
     ·refine zu ?_;have bl:y.size=1:=by grind [qac]
      obtain⟨k,rfl⟩:∃k',k=k'+1:=⟨k-1,by omega⟩
      rw[extN,Ab (by rw[extS,q1,q];rfl)]at hT;refine zcv (qrr h8 bl bg Oo) ?_;rintro v al ⟨aq,(⟨cc,rfl⟩|⟨b8,rfl,ae⟩)⟩
      ·have ad:¬tagP l:=λh=>by
        obtain⟨l1,h1,_⟩:=h
        grind
       refine zu ?_;refine StoreA.mem (ai.call aq) (i:=0) rfl (Ai 7) qek λw9 Z=>zw ?_;refine qd (R:=λv w'=>TagV l v/\Ext w w') (zw ?_);refine zl Z 0 ?_;exact⟨⟨_,_,_,_,_,_,_,qek,by rw[qdx ad];rfl⟩,Z.ext⟩
      ·have bm:¬(U.takeWhile extQ=[]\/lowS y∈vs.map lowS++es.map qgj):=by
        grind [q4q]
       rw[Aa bm]at hT;obtain⟨f1,f2⟩:=q8y (l:=U.takeWhile extQ) bl;have cp:(U.dropWhile extQ).length+1<=U.length+1:=by
        grind [List.dropWhile_sublist]
       refine zu ?_;refine⟨(k,U.dropWhile extQ,es++[jnS (y::U.takeWhile extQ)]),fq,⟨ae,?_,by grind,?_,by grind⟩,by grind⟩
       all_goals grind
    ·have hR:=stop y U rfl (qva q).2;refine zv ?_;refine h8.ldr ?_;intro A3 c3 bi bj;(conv=>whnf);refine Tst.yes Js (zu ?_);refine h8.ldr ?_;intro A4 c4 a7 an;refine zu ?_;refine ElemV.sl a7 rfl 0 rfl Js ?_;intro b3 bk ar;refine zu ?_;refine LoadV.cell0 ar (zu ?_);refine zcv (qbf y Oo w8) ?_;rintro v w9 ⟨rfl,a8⟩;have h9:=h8.call a8;refine zu ?_;rw[qxz,q];refine zv ?_;refine zcv (q0i h9 (by grind)) ?_;rintro v al ⟨rfl,ae⟩;have bn:qo3 (y::U)↔U≠[]/\U.all qj3=true:=by rw[qo3,Ab (by exact q)];rfl
     rw[List.tail_cons];cases q2:(decide (U≠[])&&U.all qj3)
     ·have ad:¬tagP l:=λh=>by
       obtain⟨l1,h1,h2⟩:=h
       grind
      refine zu ?_;refine StoreA.mem (ai.call ae.ext) (i:=0) rfl (Ai 7) qek λw9 Z=>zw ?_;refine qd (R:=λv w'=>TagV l v/\Ext w w') (zw ?_);refine zl Z 0 ?_;exact⟨⟨_,_,_,_,_,_,_,qek,by rw[qdx ad];rfl⟩,Z.ext⟩
     ·have b9:tagP l:=by
       simp only[AF,decide_eq_true_eq]at q2;exact⟨_,hR,bn.2 q2⟩
      refine zu ?_;refine ae.ldA ?_;intro s0 s1 s2 s3 A4 n4 c4 A5 n5 c5 s6 ah;(conv=>whnf);refine StoreA.mem (ai.call ae.ext) (i:=0) rfl (Ai 7) ah λw9 Z=>zw ?_;refine qd (R:=λv w'=>TagV l v/\Ext w w') (zw ?_);refine zl Z 0 ?_;exact⟨⟨_,_,_,_,_,_,_,ah,by rw[qmx b9];rfl⟩,Z.ext⟩
structure TM where
 kind:Int
 text:DB
 type:DB
 lang:DB
def encT(t:TM):DK:=[ii t.kind,.string t.text,.string t.type,.string t.lang]
def qy(t:TM):DF:=.agg #[ii t.kind,.string t.text,.string t.type,.string t.lang]
structure TermOk(t:TM):Prop where
 kind:InR .i64 t.kind
 text:t.text.size<=140737488355328
 type:t.type.size<=140737488355328
 lang:t.lang.size<=140737488355328
def qf0:DB:=⟨#[104,116,116,112,58,47,47,119,119,119,46,119,51,46,111,114,103,47,49,57,57,57,47,48,50,47,50,50,45,114,100,102,45,115,121,110,116,97,120,45,110,115,35,108,97,110,103,83,116,114,105,110,103]⟩
open Classical in
noncomputable def litE(t:TM):Nat:=
 if 65536<t.text.size then 2 else if scal t.text.data.toList=none then 40 else if iriE t.type≠0 then iriE t.type
 else if seq t.lang ⟨#[]⟩=false/\65536<t.lang.size then 2
 else if seq t.lang ⟨#[]⟩=false/\(tagE (qbi t.lang)≠0\/seq (lowS t.lang) t.lang=false)then 61
 else if(!seq t.lang ⟨#[]⟩)≠seq t.type qf0 then 71 else 0
noncomputable def qam(t:TM):Nat:=
 if t.kind=1\/t.kind=2 then(if seq t.type ⟨#[]⟩=false\/seq t.lang ⟨#[]⟩=false then 70 else if t.kind=1 then iriE t.text else if 65536<t.text.size then 2 else labE t.text)
 else if t.kind=3 then litE t else 70
theorem qod(l:List DB):tagE l=0\/tagE l=61:=by
 grind [qmx,qdx]
theorem qabk(a:Int)(b:Nat)(w:DA)(U:w.heap[b]?=some (.cells #[ii a,ii 61] 83)):
  Gv DM 143 [.slice (some ⟨b,0,none⟩) 2 2] w λv w'=>v=ii (if a=0 then 61 else a)/\w'=w:=by
 refine ze Tryz.func143 Tryz.ntmps143 ?_;refine qq (λi:Nat=>[(3,ii 0),(6,.slice (some ⟨b,0,none⟩) 2 2),(7,ii 2),(8,ii i)]) (λi V=>i<=1/\(i=1->a=0)/\V=w) (λi=>2-i) 0 fq Js ?_;rintro i V Z ⟨h1,h2,rfl⟩;obtain rfl|rfl:i=0\/i=1:=by omega
 ·refine zu ?_;refine ElemV.own1 0 rfl Oo (zw ?_);refine LoadV.of (by rw[qa U];rfl) (zw ?_);refine zC (λ_=>zu ?_) (λ_=>zu ?_)
  ·simp_all
  ·exact⟨1,fq,(by grind),by omega⟩
 ·refine zu ?_;refine ElemV.own1 1 rfl Oo (zw ?_);refine LoadV.of (by rw[qa U];rfl) (zu ?_)
  simp_all
theorem quu(t:TM)(ht:TermOk t)(w:DA)(hM:MaxLenAt w):Gv DM 70 [qy t] w λv w'=>v=ii (litE t)/\Ext w w':=by
 obtain⟨h1,h2,h3,h4⟩:=ht;refine ze Tryz.func70 Tryz.ntmps70 ?_;refine znm (Mem.nil w) λb w1 hm=>zw ?_
 (repeat'(first|refine zC (λ_=>zw ?_) (λ_=>zw ?_)|refine LoadV.mem (i:=0) Oa rfl rfl (zw ?_)))
 ·exact⟨by grind [litE],hm.ext⟩
 ·refine zcv (qrg t.text Oo w1) ?_;rintro v w2 ⟨⟨i,rfl,hi,al,am⟩,rfl⟩;have n1:¬65536<t.text.size:=by omega
  (conv=>whnf)
  (repeat'(first|refine zC (λ_=>zw ?_) (λ_=>zw ?_)|refine LoadV.mem (i:=0) Oa rfl rfl (zw ?_)))
  ·have hs:scal t.text.data.toList=none:=(by grind)
   exact⟨by grind [litE],hm.ext⟩
  ·have n2:¬scal t.text.data.toList=none:=(by grind)
   refine zcv (qjn t.type Oo w2) ?_;rintro v w3 ⟨rfl,af⟩;have hm:=hm.call af;have eL:litE t=if iriE t.type≠0 then iriE t.type else if seq t.lang ⟨#[]⟩=false/\65536<t.lang.size then 2
     else if seq t.lang ⟨#[]⟩=false/\(tagE (qbi t.lang)≠0\/seq (lowS t.lang) t.lang=false)then 61 else if(!seq t.lang ⟨#[]⟩)≠seq t.type qf0 then 71 else 0:=by grind [litE]
   rw[eL];conv=>whnf
   (repeat'(first|refine zp ?_|refine zC (λ_=>zw ?_) (λ_=>zw ?_)|refine LoadV.mem (i:=0) Oa rfl rfl (zw ?_)))
   ·exact⟨by simp_all,hm.ext⟩
   ·rw[Aa Oo];cases hl:seq t.lang ⟨#[]⟩
    ·(conv=>whnf)
     (repeat'(first|refine zp ?_|refine zC (λ_=>zw ?_) (λ_=>zw ?_)|refine LoadV.mem (i:=0) Oa rfl rfl (zw ?_)))
     ·exact⟨by grind,hm.ext⟩
     ·rw[Aa (show ¬(false=false/\65536<t.lang.size)by omega)];refine zcv (qae7 t.lang Oo w3 (hM.ext hm.ext)) ?_;rintro v w4 ⟨⟨c0,c1,c2,c3,c4,c5,c6,hc,rfl⟩,ag⟩;have ah:=hm.call ag;obtain⟨E,hE⟩:∃E,E=tagE (qbi t.lang):=⟨_,rfl⟩
      have ad:=qod (qbi t.lang);rw[<-hE]at ad|-;(conv=>whnf);refine znm ah λtb w5 ai=>zw ?_;refine StoreA.mem ai (i:=0) rfl (Ai 7) hc λw6 aa=>zw ?_;have V:w6.cell? ⟨b,3,none⟩=some (.string t.lang):=by rw[qa (aa.get (zmg (i:=1) rfl))];rfl
      rcases ad with rfl|rfl
      ·refine DrawV.free rfl Jk (zw ?_);(iterate 4 (refine zd ?_));refine zf ?_ (by intro wd hd;refine zu ?_;refine LoadV.of (Ext.cell (Ext.trans (Ext.drew xr) hd) V) ?_;(conv=>whnf);exact xq);apply zsd
       ·intro wd hd;refine zu ?_;refine zcv (qfj t.lang Oo wd) ?_;rintro v w7 ⟨rfl,aj⟩;exact⟨aj,rfl⟩
       (conv=>whnf);refine zd ?_;refine zf ?_ (by intro wd hd;refine zu ?_;refine LoadV.of (Ext.cell (Ext.trans (Ext.drew xr) hd) V) ?_;(conv=>whnf);exact xq);refine zd ?_;refine zd ?_;intro wd hd;(conv=>whnf);have U:=aa.drew.call hd;have ae:wd.cell? ⟨b,3,none⟩=some (.string t.lang):=by rw[qa (U.get (zmg (i:=1) rfl))];rfl
       have ak:wd.cell? ⟨b,2,none⟩=some (.string t.type):=by rw[qa (U.get (zmg (i:=1) rfl))];rfl
       cases an:seq (lowS t.lang) t.lang
       ·rw[Ab ⟨rfl,.inr rfl⟩];refine zu ?_;refine znm U λab w8 Z=>zw ?_;refine zcv (qabk 0 ab w8 (Z.get mh)) ?_;rintro v w9 ⟨rfl,rfl⟩;(conv=>whnf);exact⟨rfl,Z.ext⟩
       ·rw[Aa Js];(conv=>whnf);refine zt ?_;refine LoadV.mem (i:=1) Oa rfl rfl (zw ?_);refine LoadV.mem (i:=1) Oa rfl rfl (zw ?_);refine zt ?_;show Tst ((!seq t.lang ⟨#[]⟩)==seq t.type qf0) _ _;rw[hl];cases ht:seq t.type qf0
        ·refine zu ?_;exact⟨rfl,U.ext⟩
        ·refine zu ?_;exact⟨rfl,U.ext⟩
      ·rw[Ab ⟨rfl,.inl Od⟩];refine DrawV.free rfl Jk (zw ?_);(iterate 10 (refine zd ?_));intro wd hd;(conv=>whnf);have U:=aa.drew.call hd;refine zv ?_;refine znm U λab w8 Z=>zw ?_;refine zcv (qabk 61 ab w8 (Z.get mh)) ?_;rintro v w9 ⟨rfl,rfl⟩;(conv=>whnf);exact⟨rfl,Z.ext⟩
    ·rw[Aa Js,Aa Js];(conv=>whnf);refine zt ?_;refine LoadV.mem (i:=0) Oa rfl rfl (zw ?_);refine LoadV.mem (i:=0) Oa rfl rfl (zw ?_);refine zt ?_;show Tst ((!seq t.lang ⟨#[]⟩)==seq t.type qf0) _ _;rw[hl];cases ht:seq t.type qf0
     ·refine zu ?_;exact⟨rfl,hm.ext⟩
     ·refine zu ?_;exact⟨rfl,hm.ext⟩
theorem qib(t:TM)(ht:TermOk t)(w:DA)(hM:MaxLenAt w)(hT:CellsAt w 4 0 qb3):Gv DM 28 [qy t] w λv w'=>v=ii (qam t)/\Ext w w':=by
 have Z:=λV (he:Ext w V)=>quu t ht V (hM.ext he)
 obtain⟨h1,h2,h3,h4⟩:=ht;refine ze Tryz.func28 Tryz.ntmps28 ?_;refine znm (Mem.nil w) λb V U=>zw ?_;have hA:(t.kind=1\/t.kind=2)->qam t=if seq t.type ⟨#[]⟩=false\/seq t.lang ⟨#[]⟩=false then 70 else if t.kind=1 then iriE t.text else if 65536<t.text.size then 2 else labE t.text:=(by grind [qam])
 have hB:¬(t.kind=1\/t.kind=2)->qam t=if t.kind=3 then litE t else 70:=(by grind [qam])
 (repeat'(first|refine zp ?_|refine zC (λ_=>zw ?_) (λ_=>zw ?_)|refine LoadV.mem (i:=0) Oa rfl rfl (zw ?_)))
 ·rw[hA (.inl Oa)];cases hy:seq t.type ⟨#[]⟩
  ·refine zu ?_;exact⟨by rfl,U.ext⟩
  ·(conv=>whnf);refine zt ?_;refine LoadV.mem (i:=0) Oa rfl rfl (zw ?_);refine zt ?_;cases hl:seq t.lang ⟨#[]⟩
   ·refine zu ?_;exact⟨by rfl,U.ext⟩
   ·rw[Aa Js,Ab Oa];(conv=>whnf);refine zt ?_;refine LoadV.mem (i:=0) Oa rfl rfl (zw ?_);refine zt ?_;refine LoadV.mem (i:=0) Oa rfl rfl (zw ?_);refine zcv (qjn t.text Oo V) ?_;rintro v w2 ⟨rfl,he⟩;(conv=>whnf);exact⟨rfl,U.ext.trans he⟩
 ·rw[hA (.inr Oa)];cases hy:seq t.type ⟨#[]⟩
  ·refine zu ?_;exact⟨by rfl,U.ext⟩
  ·(conv=>whnf);refine zt ?_;refine LoadV.mem (i:=0) Oa rfl rfl (zw ?_);refine zt ?_;cases hl:seq t.lang ⟨#[]⟩
   ·refine zu ?_;exact⟨by rfl,U.ext⟩
   ·rw[Aa Js,Aa Oo];conv=>whnf
    (repeat'(first|refine zp ?_|refine zC (λ_=>zw ?_) (λ_=>zw ?_)|refine LoadV.mem (i:=0) Oa rfl rfl (zw ?_)))
    ·exact⟨by grind,U.ext⟩
    ·rw[Aa Oo];refine zcv (q34 t.text Oo V (hT.ext U.ext)) ?_;rintro v w2 ⟨rfl,rfl⟩;(conv=>whnf);exact⟨rfl,U.ext⟩
 ·rw[hB Oo,Ab Oa];refine zl U 0 ?_;refine zcv (Z V U.ext) ?_;rintro v w2 ⟨rfl,he⟩;(conv=>whnf);exact⟨rfl,U.ext.trans he⟩
 ·exact⟨by simp_all,U.ext⟩
theorem q9f(d:Bool)(r:Nat)(l:DL):okT d (r::l)=((qd6 r||decide (r=46))&&okT (decide (r=46)) l):=rfl
theorem qoc(r0:Nat)(t:DL)(A:oA)(c:Nat)(w:DA)(hA:SlAt zeI 1 w A ((r0::t).map Int.ofNat))(hl:t.length<=4000000000000):
  Gv DM 309 [.slice A (t.length+1) c] w λv w'=>v=.bool (okT false t)/\Ext w w':=by
 refine ze Tryz.func309 Tryz.ntmps309 ?_;refine qq (λx:Nat×Bool=>[(0,.slice A (t.length+1) c),(3,ii (x.1+1:Nat))]) (λx w2=>x.1<=t.length/\okT false t=okT x.2 (t.drop x.1)/\(x.2=true->x.1<t.length)/\Ext w w2) (λx=>t.length-x.1) (0,false) fq ⟨by simp,rfl,by simp,xr⟩ ?_;rintro⟨i,d⟩ w2 ai ⟨h1,V,h3,he⟩;simp only at h1 V h3;dsimp only;(conv=>whnf);refine zC (λ_=>zw ?_) (λ_=>zw ?_)
 ·have aa:i<t.length:=by omega
  have Z:∀w' (_:Ext w w'),∃b off,A=some ⟨b,off,none⟩/\w'.cell? ⟨b,off+(i+1)*1,none⟩=some (ii t[i]):=λw' ae=>by
   obtain⟨b,off,e1,e2⟩:=(hA.ext ae).at_ Js;refine⟨b,off,e1,?_⟩;have:=e2 (i+1) (Int.ofNat t[i]) (by simp[aa]) 0 (ii t[i]) rfl
   simpa using this
  rw[Bc aa,q9f]at V;obtain⟨b,off,rfl,hc⟩:=Z w2 he;refine⟨b,off,i+1,rfl,by omega,by omega,?_⟩;(conv=>whnf);refine LoadV.of hc (zw ?_);refine zcv (ql8 _ w2) ?_;rintro v w3 ⟨rfl,U⟩;have ad:qd6 46=false:=by decide
  cases hf:qd6 t[i]
  ·rw[hf,Dn]at V;refine zu ?_;refine⟨b,off,i+1,rfl,by omega,by omega,?_⟩;(conv=>whnf);obtain⟨b',ah,e1,af⟩:=Z w3 (he.trans U);cases e1;refine zv ?_;refine LoadV.of af (zw ?_)
   (repeat'(first|refine zp ?_|refine zC (λ_=>zw ?_) (λ_=>zw ?_)))
   ·refine⟨Ad Value.bool ?_,he.trans U⟩;rw[V,Ax Oo];rfl
   ·refine⟨Ad Value.bool ?_,he.trans U⟩;rw[V,At Oo,AC Oo];rfl
   ·refine⟨(i+1,true),fq,⟨by simp only;omega,?_,by simp only;omega,he.trans U⟩,by simp only;omega⟩;rw[V,At Oo,Ct]
  ·have ag:t[i]≠46:=by intro e;rw[e]at hf;rw[show((46:Nat):Int)=46 from rfl,ad]at hf;cases hf
   rw[hf,Bool.true_or,Ct,Ax ag]at V;refine zu ?_;exact⟨(i+1,false),fq,⟨by simp only;omega,V,by simp,he.trans U⟩,by simp only;omega⟩
 ·refine⟨Ad Value.bool ?_,he⟩;have hi:i=t.length:=by omega
  rw[V,AC Oo];cases d with
  | false=>rfl
  | true=>have:=h3 rfl;omega
theorem qs5(s:DB)(hs:s.size<=4000000000000)(w:DA):
  Gv DM 227 [.string s] w λv w'=>v=ii (labE s)/\Ext w w':=by
 have ag:=qvu s hs w;have Z:qcc s=false->labE s=60:=λh=>by rw[labE,Aa (by rw[h];simp)]
 have aa:qcc s=true->labE s=0:=λh=>by rw[labE,Ab h]
 refine ze Tryz.func227 Tryz.ntmps227 ?_;refine zcv (ag) ?_;rintro v w1 ⟨⟨hn,rfl⟩|⟨l,A,c,hl,rfl,hA,af⟩,he⟩
 ·have hL:qcc s=false:=by rw[qcc,hn]
  refine zu ?_;exact⟨by rw[Z hL];rfl,he⟩
 ·have hL:qcc s=labL l:=by rw[qcc,hl]
  cases l with
  | nil=>
   simp only[B6];refine zu ?_;exact⟨by rw[Z hL];rfl,he⟩
  | cons r0 t=>
   have hL:qcc s=(labB r0&&okT false t):=hL;have ad:∀w' (_:Ext w1 w'),∃b off,A=some ⟨b,off,none⟩/\w'.cell? ⟨b,off+0*1,none⟩=some (ii r0):=λw' ah=>by
    obtain⟨b,off,e1,e2⟩:=(hA.ext ah).at_ Js;exact⟨b,off,e1,by simpa using e2 0 (Int.ofNat r0) Js 0 (ii r0) rfl⟩
   obtain⟨b,off,rfl,hc⟩:=ad w1 xr;simp only[Au]at af|-;refine zu ?_;refine⟨b,off,0,rfl,by omega,by omega,?_⟩;refine zu ?_;refine LoadV.of hc (zu ?_);refine zcv (qgn _ w1) ?_;rintro v w2 ⟨rfl,U⟩;cases hS:qgr r0
   ·refine zu ?_;refine⟨b,off,0,rfl,by omega,by omega,?_⟩;refine zu ?_;obtain⟨b',aj,e1,ai⟩:=ad w2 U;cases e1;refine LoadV.of ai (zu ?_);refine zcv (qh2 _ w2) ?_;rintro v w3 ⟨rfl,rfl⟩;cases hD:digN r0
    ·have V:qcc s=false:=by rw[hL,labB,hS,hD];rfl
     refine zu ?_;exact⟨by rw[Z V];rfl,he.trans U⟩
    ·have V:labB r0=true:=by rw[labB,hS,hD];rfl
     refine zu ?_;refine zcv (qoc r0 t _ c w3 (hA.ext U) Oo) ?_;rintro v w4 ⟨rfl,ae⟩;have hx:=he.trans (U.trans ae);cases hO:okT false t
     ·have V:qcc s=false:=by rw[hL,hO,Cw]
      refine zu ?_;exact⟨by rw[Z V];rfl,hx⟩
     ·have V:qcc s=true:=by rw[hL,V,hO];rfl
      refine zu ?_;exact⟨by rw[aa V];rfl,hx⟩
   ·have V:labB r0=true:=by rw[labB,hS];rfl
    refine zu ?_;refine zcv (qoc r0 t _ c w2 (hA.ext U) Oo) ?_;rintro v w4 ⟨rfl,ae⟩;have hx:=he.trans (U.trans ae);cases hO:okT false t
    ·have V:qcc s=false:=by rw[hL,hO,Cw]
     refine zu ?_;exact⟨by rw[Z V];rfl,hx⟩
    ·have V:qcc s=true:=by rw[hL,V,hO];rfl
     refine zu ?_;exact⟨by rw[aa V];rfl,hx⟩
theorem qsc(s:DB):seq (lowS s) s=true↔∀i,i<s.size->¬(65<=(gb s i).toNat/\(gb s i).toNat<=90):=by
 rw[qab]
 constructor
 ·intro h i hi hc;have e:=Ad (λb:DB=>b.data.toList[i]?) h;have U:i<s.data.toList.length:=by simpa using hi
  simp only[lowS,Ao]at e;rw[zge U]at e;have V:s.data.toList[i]=gb s i:=by rw[gb,Ag,zge U,BL]
  rw[V]at e;have e:=AR e;have:=qpu (gb s i) hc;rw[e]at this;omega
 ·intro h;have e:s.data.toList.map lowB=s.data.toList:=by
   apply Dm Js;intro i h1 Z;rw[Cx];have V:s.data.toList[i]=gb s i:=by rw[gb,Ag,zge Z,BL]
   rw[V];exact qpv _ (h i (by simpa using Z))
  unfold lowS;rw[e]
theorem qne(t:TM)(ht:TermOk t)(w:DA):Gv DM 228 [qy t] w λv w'=>v=ii (litE t)/\Ext w w':=by
 obtain⟨h1,h2,h3,h4⟩:=ht;refine ze Tryz.func228 Tryz.ntmps228 ?_;refine znm (Mem.nil w) λb w1 U=>zw ?_
 (repeat'(first|((with_reducible refine zC (λ_=>?_) (λ_=>?_))<;>first|(exfalso;omega)|(conv=>whnf))|(refine LoadV.mem (i:=0) Oa rfl rfl ?_;(conv=>whnf))))
 ·exact⟨by rw[litE,Ab (show 65536<t.text.size by omega)];rfl,U.ext⟩
 ·have n1:¬65536<t.text.size:=by omega
  refine zcv (qjw t.text Oo w1) ?_;rintro v w2 ⟨⟨i,rfl,hi,af,ag⟩,ah⟩;have U:=U.call ah;conv=>whnf
  (repeat'(first|((with_reducible refine zC (λ_=>?_) (λ_=>?_))<;>first|(exfalso;omega)|(conv=>whnf))|(refine LoadV.mem (i:=0) Oa rfl rfl ?_;(conv=>whnf))))
  ·have hs:scal t.text.data.toList=none:=Aw λh=>by have:=af h;omega
   exact⟨by rw[litE,Aa n1,Ab hs];rfl,U.ext⟩
  ·have n2:¬scal t.text.data.toList=none:=λh=>by have:=ag h;omega
   refine zcv (qfv t.type Oo w2) ?_;rintro v w3 ⟨rfl,ai⟩;have U:=U.call ai;have eL:litE t=if iriE t.type≠0 then iriE t.type else if seq t.lang ⟨#[]⟩=false/\65536<t.lang.size then 2
     else if seq t.lang ⟨#[]⟩=false/\(tagE (qbi t.lang)≠0\/seq (lowS t.lang) t.lang=false)then 61 else if(!seq t.lang ⟨#[]⟩)≠seq t.type qf0 then 71 else 0:=by rw[litE,Aa n1,Aa n2]
   rw[eL];conv=>whnf
   (repeat'(first|((with_reducible refine zC (λ_=>?_) (λ_=>?_))<;>first|(exfalso;omega)|(conv=>whnf))|((with_reducible refine zP ?_))|(refine LoadV.mem (i:=0) Oa rfl rfl ?_;(conv=>whnf))))
   ·exact⟨by rw[Ab Oo],U.ext⟩
   ·rw[Aa Oo];cases hl:seq t.lang ⟨#[]⟩
    ·(conv=>whnf)
     (repeat'(first|((with_reducible refine zU ?_);(conv=>whnf))|((with_reducible refine zC (λ_=>?_) (λ_=>?_))<;>first|(exfalso;omega)|(conv=>whnf))|(refine LoadV.mem (i:=0) Oa rfl rfl ?_;(conv=>whnf))))
     ·exact⟨by rw[Ab ⟨rfl,by omega⟩];rfl,U.ext⟩
     ·rw[Aa (show ¬(false=false/\65536<t.lang.size)by omega)];refine zcv (q02 t.lang Oo w3) ?_;rintro v w4 ⟨⟨c0,c1,c2,c3,c4,c5,c6,hc,rfl⟩,aj⟩;have ad:=U.call aj;obtain⟨E,hE⟩:∃E,E=tagE (qbi t.lang):=⟨_,rfl⟩
      have ae:=qod (qbi t.lang);rw[<-hE]at ae|-;conv=>whnf
      rcases ae with rfl|rfl
      ·refine zN (λ_=>?_);(conv=>whnf);have lg:∀w5,Ext w4 w5->w5.cell? ⟨b,3,none⟩=some (.string t.lang):=λw5 V=>by rw[qa ((ad.call V).get (zmg (i:=0) rfl))];rfl
       refine qq (λi:Nat=>[(1,pp b),(4,ii i)])
        (λi w5=>Ext w4 w5/\i<=t.lang.size/\∀j,j<i->¬(65<=(gb t.lang j).toNat/\(gb t.lang j).toNat<=90))
        (λi=>t.lang.size-i) 0 fq ⟨xr,by omega,λj h0=>by omega⟩ ?_
       rintro i w5 al ⟨V,hi,hj⟩;have aa:=ad.call V;(conv=>whnf);refine zr aa 0 ?_
       (repeat'(first|(refine zA ?_;(conv=>whnf))|((with_reducible refine zT ?_);(conv=>whnf))|((with_reducible refine zU ?_);(conv=>whnf))|((with_reducible refine zC (λ_=>?_) (λ_=>?_))<;>first|(exfalso;omega)|(conv=>whnf))|((with_reducible refine zP ?_))|((with_reducible refine zX ?_);(conv=>whnf))|(refine LoadV.mem (i:=0) Oa rfl rfl ?_;(conv=>whnf))))
       ·have Z:seq (lowS t.lang) t.lang=false:=CD.2 λh=>qsc t.lang |>.1 h i Oo Oo
        exact⟨by rw[Ab ⟨rfl,.inr Z⟩];rfl,aa.ext⟩
       ·refine⟨i+1,fq,⟨V,by omega,λj ak=>?_⟩,by omega⟩
        by_cases e:j=i
        ·subst e;omega
        ·exact hj j Oo
       ·refine⟨i+1,fq,⟨V,by omega,λj ak=>?_⟩,by omega⟩
        by_cases e:j=i
        ·subst e;omega
        ·exact hj j Oo
       ·have Z:seq (lowS t.lang) t.lang=true:=qsc t.lang |>.2 λj am=>hj j Oo
        rw[Aa (by rw[Z];simp)];show Tst ((!seq t.lang ⟨#[]⟩)==seq t.type qf0) _ _;rw[hl];cases ht:seq t.type qf0
        ·(conv=>whnf);refine Tst.beqF ?_;refine zP ?_;refine zU ?_;(conv=>whnf);exact⟨rfl,aa.ext⟩
        ·(conv=>whnf);refine Tst.beqT ?_;refine zP ?_;refine zU ?_;(conv=>whnf);exact⟨rfl,aa.ext⟩
      ·(conv=>whnf);refine zY (λ_=>?_);(conv=>whnf);exact⟨by rw[Ab ⟨rfl,.inl Od⟩],ad.ext⟩
    ·rw[Aa Js,Aa Js];(conv=>whnf);refine zT ?_;(conv=>whnf);(iterate 2 (refine LoadV.mem (i:=0) Oa rfl rfl ?_;(conv=>whnf)));refine zP ?_;show Tst ((!seq t.lang ⟨#[]⟩)==seq t.type qf0) _ _;rw[hl];cases ht:seq t.type qf0
     ·(conv=>whnf);refine Tst.beqF ?_;refine zP ?_;refine zT ?_;(conv=>whnf);exact⟨rfl,U.ext⟩
     ·(conv=>whnf);refine Tst.beqT ?_;refine zP ?_;refine zT ?_;(conv=>whnf);exact⟨rfl,U.ext⟩
theorem qbj(t:TM)(ht:TermOk t)(w:DA):Gv DM 148 [qy t] w λv w'=>v=ii (qam t)/\Ext w w':=by
 have V:=λZ=>qne t ht Z
 obtain⟨h1,h2,h3,h4⟩:=ht;refine ze Tryz.func148 Tryz.ntmps148 ?_;refine znm (Mem.nil w) λb Z U=>zw ?_;have hA:(t.kind=1\/t.kind=2)->qam t=if seq t.type ⟨#[]⟩=false\/seq t.lang ⟨#[]⟩=false then 70 else if t.kind=1 then iriE t.text else if 65536<t.text.size then 2 else labE t.text:=λh=>by rw[qam,Ab h]
 have hB:¬(t.kind=1\/t.kind=2)->qam t=if t.kind=3 then litE t else 70:=λh=>by rw[qam,Aa h]
 (repeat'(first|((with_reducible refine zC (λ_=>?_) (λ_=>?_))<;>first|(exfalso;omega)|(conv=>whnf))|((with_reducible refine zP ?_))|(refine LoadV.mem (i:=0) Oa rfl rfl ?_;(conv=>whnf))))
 ·rw[hA (.inl Oa)];cases hy:seq t.type ⟨#[]⟩
  ·(conv=>whnf);refine zU ?_;(conv=>whnf);(iterate 4 (refine zT ?_;(conv=>whnf)));exact⟨by rw[Ab (.inl rfl)];rfl,U.ext⟩
  ·(conv=>whnf);refine zT ?_;(conv=>whnf);refine zU ?_;(conv=>whnf);refine LoadV.mem (i:=0) Oa rfl rfl (zw ?_);(iterate 2 (refine zU ?_;(conv=>whnf)));refine zP ?_;cases hl:seq t.lang ⟨#[]⟩
   ·(conv=>whnf);refine zU ?_;(conv=>whnf);exact⟨by rw[Ab (.inr rfl)];rfl,U.ext⟩
   ·rw[Aa Js,Ab Oa];(conv=>whnf);refine zT ?_;(conv=>whnf);refine LoadV.mem (i:=0) Oa rfl rfl (zw ?_);refine zY (λ_=>?_);(conv=>whnf);refine LoadV.mem (i:=0) Oa rfl rfl (zw ?_);refine zcv (qfv t.text Oo Z) ?_;rintro v w2 ⟨rfl,he⟩;(conv=>whnf);exact⟨rfl,U.ext.trans he⟩
 ·rw[hA (.inr Oa)];cases hy:seq t.type ⟨#[]⟩
  ·(conv=>whnf);refine zU ?_;(conv=>whnf);(iterate 4 (refine zT ?_;(conv=>whnf)));exact⟨by rw[Ab (.inl rfl)];rfl,U.ext⟩
  ·(conv=>whnf);refine zT ?_;(conv=>whnf);refine zU ?_;(conv=>whnf);refine LoadV.mem (i:=0) Oa rfl rfl (zw ?_);(iterate 2 (refine zU ?_;(conv=>whnf)));refine zP ?_;cases hl:seq t.lang ⟨#[]⟩
   ·(conv=>whnf);refine zU ?_;(conv=>whnf);exact⟨by rw[Ab (.inr rfl)];rfl,U.ext⟩
   ·rw[Aa Js,Aa Oo];conv=>whnf
    (repeat'(first|((with_reducible refine zT ?_);(conv=>whnf))|((with_reducible refine zC (λ_=>?_) (λ_=>?_))<;>first|(exfalso;omega)|(conv=>whnf))|(refine LoadV.mem (i:=0) Oa rfl rfl ?_;(conv=>whnf))))
    ·exact⟨by rw[Ab Oo];rfl,U.ext⟩
    ·rw[Aa Oo];refine zcv (qs5 t.text Oo Z) ?_;rintro v w2 ⟨rfl,he⟩;(conv=>whnf);exact⟨rfl,U.ext.trans he⟩
 ·rw[hB Oo,Ab Oa];refine zl U 0 ?_;refine zcv (V Z) ?_;rintro v w2 ⟨rfl,he⟩;(conv=>whnf);exact⟨rfl,U.ext.trans he⟩
 ·exact⟨by rw[hB Oo,Aa Oo];rfl,U.ext⟩
open Go.RowKit
namespace V
theorem StoreA.all{t:DD}{K:DI}(h:Mem w0 w L)(hi:L[i]?=some (b,.cells cur t))(Z:cur.size=vs.length)(U:∀v∈vs,v.oneCell'=true)(V:∀w',Mem w0 w' (L.set i (b,.cells vs.toArray t))->K w'):StoreA P w b 0 vs K:=by
 refine StoreA.mem h hi Oo U λw' hw=>V w' ?_
 grind [List.drop_eq_nil_of_le]
end V
open V
theorem q4m:∀(x y:LB),Op.bytesLess x y=decide (x<y)
 | [],[]=>by rfl
 | _::_,[]=>by rfl
 | [],_::_=>by rfl
 | a::x,b::y=>by
  rw[Op.bytesLess,q4m x y];simp only[AZ]
  by_cases U:a<b<;>by_cases V:a=b<;>by_cases Z:x<y<;>simp[U,V,Z]
theorem qe0{a b:DB}:slt a b=true↔a.data.toList<b.data.toList:=by
 grind [slt,q4m,ByteArray.toList_eq]
theorem qjd(a:DB):slt a a=false:=by
 grind [qe0]
theorem qmo{a b c:DB}(h:slt a b=true)(k:slt b c=true):slt a c=true:=by
 grind [qe0]
theorem qqm(a b:DB):slt a b=true\/a=b\/slt b a=true:=by
 rw[qe0,qe0]
 by_cases U:a.data.toList<b.data.toList
 ·exact .inl U
 ·by_cases V:b.data.toList<a.data.toList
  ·simp_all
  ·refine .inr (.inl ?_);have:=List.le_antisymm (List.not_lt.1 V) (List.not_lt.1 U);cases a;simp_all
namespace V
def encB(c:DE):DK:=[.int .u8 c.toNat]
structure BS(w:DA)(v:DF)(l:LB):Prop where
 h:∃A c,v=.slice A l.length c/\l.length<=c/\SlAt encB 1 w A l
theorem BS.ext{v:DF}(h:BS w v l)(U:Ext w w'):BS w' v l:=by
 obtain⟨A,c,V,Z,h3⟩:=h;exact⟨A,c,V,Z,h3.ext U⟩
theorem BS.nil(w:DA):BS w (.slice none 0 0) []:=⟨none,0,rfl,by simp,⟨λh=>absurd rfl h⟩⟩
theorem SlAt.cut{α:Type}{enc:α->DK}{U:Nat}{A':oA}{l:List α}(h:SlAt enc U w A l)(h1:lo<=hi)(h2:hi<=l.length)(h3:hi<=m)(e:A'=if m=lo then A else A.map (·.add (lo*U))):SlAt enc U w A' ((l.drop lo).take (hi-lo)):=by
 refine⟨λV=>?_⟩;have ad:lo<hi:=by
  rcases AN lo hi with h|h
  ·exact h
  ·exact absurd (by rw[show hi-lo=0 by omega,Br]) V
 have hn:l≠[]:=by rintro rfl;simp at h2;omega
 obtain⟨b,off,rfl,hc⟩:=h.at_ hn;rw[Aa Oo]at e;simp only[Be,qaq]at e;refine⟨b,off+lo*U,e,λj x Z=>?_⟩;have hj:j<hi-lo:=by
  have:=(Ae.1 Z).1;simp at this;omega
 have aa:l[lo+j]?=some x:=by
  rw[Bv,Ab hj,BZ]at Z;exact Z
 have:=hc (lo+j) x aa
 rwa[Nat.add_mul,<-Cb]at this
theorem SliceV.bs{n:Nat}{lo hi:Option DF}{K:DF->Prop}(hA:SlAt encB 1 w A l)(hl:l.length=n)(a b m:Nat)(h1:bnd lo 0 a)(h2:bnd hi n b)(h3:bnd mx c m)(U:a<=b)(aa:b<=n)(V:b<=m)(hm:m<=c)(hs:mx.isSome=true->hi.isSome=true)(hk:∀Z,SlAt encB 1 w Z ((l.drop a).take (b-a))->K (.slice Z (b-a) (m-a))):SliceV 1 A n c lo hi mx K:=
 ⟨a,b,m,h1,h2,h3,U,V,hm,hs,λZ e=>hk Z (hA.cut U Oo V e)⟩
theorem ElemV.bs{n:Nat}{i:Int}{K:DF->Prop}(Z:SlAt encB 1 w A l)(U:l.length=n)(j:Nat)(e:i=(j:Int))(V:j<n)(hk:∀b off,w.cell? ⟨b,off,none⟩=some (.int .u8 (l[j]'(U ▸ V)).toNat)->K (.pointer (some ⟨b,off,none⟩))):ElemV A i n 1 K:=
 ElemV.sl Z U j e V λb off hc=>hk b off (by have:=hc 0 _ rfl;rwa[Bt]at this)
structure Upd(w w':DA)(b:Nat)(o:Obj):Prop where
 os:w'.os=w.os
 tape:w'.tape=w.tape
 output:w'.output=w.output
 size:w.heap.size<=w'.heap.size
 block:∀k,k<w.heap.size->k≠b->w'.heap[k]?=w.heap[k]?
 at_:w'.heap[b]?=some o
theorem Upd.refl{o:Obj}(h:w.heap[b]?=some o):Upd w w b o:=⟨rfl,rfl,rfl,Ai _,λ_ _ _=>rfl,h⟩
theorem Upd.of{o:Obj}(h:w.heap[b]?=some o)(U:Ext w w'):Upd w w' b o:=⟨U.os,U.tape,U.output,U.size,λk V _=>U.block k V,U.get h⟩
theorem Upd.set{t:DD}{v:DF}(h:w.heap[b]?=some (.cells cs t fr))(U:w'=w.setCell ⟨b,off,none⟩ v):Upd w w' b (.cells (cs.setIfInBounds off v) t fr):=by
 subst U;exact⟨rfl,rfl,rfl,by simp[World.setCell],λk _ V=>Below.heap_setCell _ _ _ _ V,heap_setCell h⟩
theorem Upd.trans{a b c:DA}{o:Obj}(h:Upd a b k o)(U:Upd b c k o'):Upd a c k o':=
 ⟨U.os.trans h.os,U.tape.trans h.tape,U.output.trans h.output,AE h.size U.size,λj Z V=>(U.block j (Bu Z h.size) V).trans (h.block j Z V),U.at_⟩
theorem Upd.ext{o:Obj}(h:Upd w w' b o)(U:Ext w0 w)(Z:w0.heap.size<=b):Ext w0 w':=
 Below.trans U ⟨h.os,h.tape,h.output,h.size,λk V=>h.block k (Bu V U.size) Oo⟩
theorem Mem.upd{o:Obj}(h:Mem w0 w L)(hi:L[i]?=some (b,o))(hu:Upd w w' b o'):Mem w0 w' (L.set i (b,o')):=by
 have hm:(b,o)∈L:=zmg hi;have aa:i<L.length:=(Ae.1 hi).1;have ad:L[i]=(b,o):=(Ae.1 hi).2;have hn:((L.set i (b,o')).map (·.1))=L.map (·.1):=by
  rw[List.map_set];apply Bj;intro j;rw[Cp]
  split
  ·rename_i e;subst e
   rw[Ao,hi];simp[aa]
  ·rfl
 refine⟨hu.ext h.ext (h.own _ hm).1,?_,by rw[hn];exact h.nodup⟩;intro x hx
 rcases CO hx with U | rfl
 ·refine⟨(h.own x U).1,?_⟩
  by_cases e:x.1=b
  ·obtain⟨j,hj,V⟩:=BN.1 hx
   by_cases Z:j=i
   ·subst Z;rw[List.getElem_set_self]at V;rw[<-V];exact hu.at_
   ·have h1:(L.map (·.1))[j]'(by simpa using hj)=b:=by
     have:(L.set i (b,o'))[j]=L[j]'(by simpa using hj):=List.getElem_set_ne (λe=>Z e.symm) _;rw[Cx,<-this,V,e]
    have h2:(L.map (·.1))[i]'(by simpa using aa)=b:=by rw[Cx,ad]
    have:=(List.getElem_inj h.nodup).1 (h1.trans h2.symm);exact absurd this Z
  ·rw[hu.block _ (h.lt (b:=x.1) (o:=x.2) U) e];exact(h.own x U).2
 ·exact⟨(h.own (b,o) hm).1,hu.at_⟩
end V
open Go.ChangeShapes Go.WideShapes Go.RowKit V
namespace V
section
variable {H:Type} {enc:DD×DF->H} {P:DC} {w:DA} {t:DD}
theorem Opn.sliceR{α:Type}[Inhabited α]{en:α->DK}{R:α->Prop}{size e:Nat}{c:DF}(ht:P.underlying t=some (.slice e))(hc:P.cellsOf e=size)(ag:0<size)(Z:∀x,(en x).length=size)(aa:∀cs,Opn enc P w e cs->∃x,cs=en x/\R x)(h:Opn enc P w t [c]):
  ∃(A:oA) (V:Nat) (l:List α),c=.slice A l.length V/\l.length<=V/\V*P.bytesOf e<=140737488351232/\(∀x∈l,R x)/\SlAt en size w A l:=by
 obtain⟨n,d,ps,h,hw⟩:=h;have e2:reachBytes=140737488351232:=rfl
 rcases Deep.open_slice ht h with⟨h1,_⟩|⟨a,U,V,m,n,D,Pl,h1,_,ah,ai,hm,hd,hx⟩
 ·refine⟨none,0,[],by simpa using h1,by simp,by simp,by simp,⟨λh=>absurd rfl h⟩⟩
 ·simp only[if_true]at hm;simp only[Prod.mk.injEq]at hd;obtain⟨rfl,_⟩:=hd;rw[DataW.weights,ht]at hw;simp only[A6,Da]at hw;have ad:=hw _ mh;rw[show U+(m-U)=V by omega]at ad;obtain⟨X,hX⟩:=Deep.choose_lt (n:=U) (p:=λi (x:α)=>w.cells? 0 (a.add (i*P.cellsOf e)) (P.cellsOf e)=some (en x)/\R x) (λi hi=>by
   obtain⟨cs,h2,h3⟩:=hx i Oo;obtain⟨x,rfl,hr⟩:=aa cs ⟨n,D i,Pl i,h3,λk hk=>hw k (zmc (Ah _ (qgk hk _ (AA.2 ⟨i,BB.2 hi,rfl⟩))))⟩;exact⟨x,h2,hr⟩)
  refine⟨some a,V,(List.range U).map X,by simpa using h1,by simp;omega,by omega,λs hs=>?_,⟨λhn=>?_⟩⟩
  ·obtain⟨i,hi,rfl⟩:=AA.1 hs;exact(hX i (BB.1 hi)).2
  ·have ae:0<U:=by
    rcases Bk U with h0|h0
    ·exact absurd (by rw[h0];rfl) hn
    ·exact h0
   have hs:a=⟨a.block,a.off,none⟩:=by
    obtain⟨_,_,h2⟩:=World.cells?_some (hX 0 ae).1;have h3:=h2 0 Oo;rw[zge (by rw[Z];omega)]at h3;refine q6d (w:=w) (v:=(en (X 0))[0]'(by rw[Z];omega)) ?_
    simpa[Addr.add]using h3
   refine⟨a.block,a.off,by rw[<-hs],λj s hj k v hv=>?_⟩;have af:j<U:=by
    have:=(Ae.1 hj).1
    simpa using this
   rw[Ao,Bs af]at hj;simp only[Be,AI]at hj;subst hj;obtain⟨_,_,h2⟩:=World.cells?_some (hX j af).1;have hk:k<size:=by rw[<-Z (X j)];exact(Ae.1 hv).1
   have h3:=h2 k Oo;rw[hv,hs,qaq,qaq,hc]at h3;exact h3
end
end V
theorem qacq:DM.cellsOf 5=1:=by kernel_rfl
theorem qacj:DM.bytesOf 5=1:=by kernel_rfl
theorem q0e{H:Type}{enc:DD×DF->H}{c:DF}(h:Opn enc DM W 32 [c]):
  ∃(A:oA) (U:Nat) (l:LB),c=.slice A l.length U/\l.length<=U/\l.length<=140737488351232/\SlAt encB 1 W A l:=by
 obtain⟨A,U,l,V,Z,h3,_,h5⟩:=h.sliceR (en:=encB) (R:=λ_=>True) (size:=1) Tryz.underlying32 qacq Od (λ_=>rfl) (λcs hc=>by
  obtain⟨n,d,ps,V,_⟩:=hc.h;obtain⟨s,rfl,_,Z⟩:=DataW.trod_int Tryz.underlying5 V;obtain⟨h3,h4⟩:0<=s/\s<=255:=q3r Z;refine⟨UInt8.ofNat s.toNat,?_,trivial⟩;have e:((UInt8.ofNat s.toNat).toNat:Int)=s:=by
   rw[BK];omega
  show[Value.int .u8 s]=[Value.int .u8 ((UInt8.ofNat s.toNat).toNat:Int)];rw[e])
 rw[qacj]at h3;exact⟨A,U,l,V,Z,by omega,h5⟩
def qfq(i n:Nat):LB->Nat×Nat×Nat
 | []=>(0,0,10)
 | c::l=>if(i=9/\1<c.toNat)\/(0<i/\c.toNat=0)then(0,0,11)else if c.toNat<128 then(n+c.toNat%128*2 ^ (7*i),i+1,0)else qfq (i+1) (n+c.toNat%128*2 ^ (7*i)) l
def numL(l:LB):Nat×Nat×Nat:=qfq 0 0 l
theorem qdh{n:Nat}{c:DE}:qfq i n (c::l)=if(i=9/\1<c.toNat)\/(0<i/\c.toNat=0)then(0,0,11)else if c.toNat<128 then(n+c.toNat%128*2 ^ (7*i),i+1,0)else qfq (i+1) (n+c.toNat%128*2 ^ (7*i)) l:=rfl
theorem qbr{k:IntKind}(i:Nat)(U:InR k ((a+b*2 ^ i:Nat):Int))(V:a<2 ^ i):qgu .or k (a:Int) ((b*2 ^ i:Nat):Int)=((a+b*2 ^ i:Nat):Int):=by
 have e:(a |||b*2 ^ i)=a+b*2 ^ i:=by
  rw[Nat.or_comm,Cg b,CL];exact(Nat.two_pow_add_eq_or_of_lt V b).symm
 rw[q13 (InR.le U Oo) (InR.le U Oo) (by rw[e];exact U),e]
theorem V.Wit.shlN{k:IntKind}{b:Int}{K:Int->Prop}(n:Nat)(e:b=(n:Int))(Z:n<k.bits)(h:InR k ((a*2 ^ n:Nat):Int))(U:K ((a*2 ^ n:Nat):Int)):
  Wit (λr=>0<=b/\b<k.bits/\k.wrap ((a:Int)*2 ^ b.toNat)=r) K:=by
 subst e;have V:(a:Int)*2 ^ ((n:Int).toNat)=((a*2 ^ n:Nat):Int):=by
  rw[CY];push_cast;rfl
 refine⟨_,⟨by omega,by omega,?_⟩,U⟩;rw[V];exact h.wrap
theorem pow7(i:Nat)(hi:i<=8):2 ^ (7*i)<=72057594037927936:=by
 have:2 ^ (7*i)<=2 ^ 56:=Bg Od Oo
 simpa using this
theorem qir(i n c:Nat)(hi:i<=9)(Z:n<2 ^ (7*i))(hc:c<256)(h9:i=9->c<=1):c%128*2 ^ (7*i)<=9223372036854775808/\n+c%128*2 ^ (7*i)<2 ^ 64/\(i<9->n+c%128*2 ^ (7*i)<2 ^ (7*(i+1))):=by
 by_cases e:i=9
 ·subst e;have h1:=h9 rfl;have h2:c%128=c:=BM Oo;rw[h2];have V:2 ^ (7*9)=9223372036854775808:=by decide
  rw[V]at Z|-;have:c*9223372036854775808<=1*9223372036854775808:=B9 _ h1;have U:2 ^ 64=18446744073709551616:=by decide
  exact⟨by omega,by rw[U];omega,λh=>by omega⟩
 ·have V:2 ^ (7*(i+1))=128*2 ^ (7*i):=by rw[Nat.mul_add,Nat.pow_add];omega
  have hm:c%128*2 ^ (7*i)<=127*2 ^ (7*i):=B9 _ Oo;have h7:=pow7 i Oo;have U:2 ^ 64=18446744073709551616:=by decide
  exact⟨by omega,by rw[U];omega,λ_=>by rw[V];omega⟩
def numV(r:Nat×Nat×Nat):DF:=.tuple #[.int .u64 r.1,ii r.2.1,ii r.2.2]
theorem qfa{n:Nat}(h:n<2 ^ 64):InR .u64 (n:Int):=by
 have U:2 ^ 64=18446744073709551616:=by decide
 exact⟨by omega,by omega⟩
theorem qr2(l:LB)(i:Nat)(h:i<l.length):l.drop i=l[i]::l.drop (i+1):=Bc h
theorem qz9(l:LB)(A:oA)(c:Nat)(w:DA)(hS:SlAt encB 1 w A l)(hl:l.length<=140737488355328):
  Gv DM 180 [.slice A l.length c] w λv w'=>v=numV (numL l)/\w'=w:=by
 refine ze Tryz.func180 Tryz.ntmps180 ?_;refine qq (λx:Nat×Nat=>[(0,.slice A l.length c),(5,.int .u64 x.2),(6,ii x.1)]) (λx w1=>x.1<=l.length/\x.1<=9/\x.2<2 ^ (7*x.1)/\numL l=qfq x.1 x.2 (l.drop x.1)/\w1=w) (λx=>l.length-x.1) (0,0)
  fq ⟨by simp,by simp,by simp,by rw[Bn];rfl,rfl⟩ ?_
 rintro⟨i,n⟩ w1 ae ⟨h1,h9,hn,U,rfl⟩;dsimp only at h1 h9 hn U|-;(conv=>whnf);refine zC (λ_=>zw ?_) (λ_=>zw ?_)
 ·have hi:i<l.length:=by omega
  rw[qr2 l i hi,qdh]at U;obtain⟨c0,aa⟩:∃c0,c0=l[i]:=⟨_,rfl⟩
  have ad:c0.toNat<256:=c0.toBitVec.isLt;rw[<-aa]at U;refine ElemV.bs hS rfl i rfl hi ?_;intro eb eo Z;rw[<-aa]at Z;refine LoadV.of Z (zw ?_)
  (repeat'(first|refine zp ?_|refine zC (λ_=>zw ?_) (λ_=>zw ?_)))
  all_goals first
   | exact⟨by rw[U,Ab Oo];rfl,rfl⟩
   | skip
  all_goals
   rw[Aa Oo]at U;obtain⟨g1,g2,g3⟩:=qir i n c0.toNat h9 hn ad Oo;refine Wit.eq (qa1 (k:=.u8) (m:=c0.toNat) 7 rfl ⟨by omega,by omega⟩ ⟨by omega,by omega⟩) (zu ?_);refine V.Wit.shlN (7*i) Oo (by show 7*i<64;omega) (qfa (by show c0.toNat%2 ^ 7*2 ^ (7*i)<_;rw[show 2 ^ 7=128 from rfl];omega)) ?_;refine Wit.eq (qbr (7*i) (qfa g2) hn) (zw ?_)
   (repeat'(first|refine zp ?_|refine zC (λ_=>zw ?_) (λ_=>zw ?_)))
   all_goals first
    | (rw[Ab Oo]at U;exact⟨by rw[U];rfl,rfl⟩)
    | (rw[Aa Oo]at U;exact⟨(i+1,n+c0.toNat%128*2 ^ (7*i)),fq,⟨by simp only;omega,by simp only;omega,g3 Oo,U,rfl⟩,by simp only;omega⟩)
 ·rw[AC Oo,qfq]at U;exact⟨by rw[U];rfl,rfl⟩
def curO(t:DD)(v:DF)(U e:Nat):Obj:=.cells #[v,ii U,ii e] t
theorem q9i(b:Nat)(v:DF)(U e:Nat)(l:LB)(w:DA)(hb:w.heap[b]?=some (curO 367 v U e))(hv:BS w v l)(ag:U<=l.length)(_:l.length<=140737488355328):
  Gv DM 360 [pp b] w λr w'=>r=numV (numL (l.drop U))/\Ext w w':=by
 obtain⟨A,c,rfl,hc,hS⟩:=hv;refine ze Tryz.func360 Tryz.ntmps360 ?_;refine zy ?_;refine zv ?_;refine LoadV.own hb rfl (zu ?_);refine LoadV.own hb rfl (zu ?_);refine SliceV.bs hS rfl U l.length c rfl rfl rfl ag znr hc znr (λh=>by cases h) ?_;intro A' ae;refine zu ?_;have ah:(l.drop U).take (l.length-U)=l.drop U:=Aj Js;rw[ah]at ae;obtain⟨m,hm⟩:∃m,m=l.drop U:=⟨_,rfl⟩
 have ai:m.length=l.length-U:=by rw[hm];simp
 rw[<-hm]at ae|-;have hx:=(Ext.refl w).drew;have hA:=ae.ext hx;refine qq (λx:Nat×Nat=>[(16,.slice A' (l.length-U) (c-U)),(17,ii (l.length-U:Nat)),(18,ii x.1),(5,.int .u64 x.2)]) (λx w1=>x.1<=m.length/\x.1<=9/\x.2<2 ^ (7*x.1)/\numL m=qfq x.1 x.2 (m.drop x.1)/\Ext w.drew w1) (λx=>m.length-x.1) (0,0)
  fq ⟨by simp,by simp,by simp,by rw[Bn];rfl,xr⟩ ?_
 rintro⟨i,n⟩ w1 al ⟨h1,h9,hn,Z,aa⟩;dsimp only at h1 h9 hn Z|-;(conv=>whnf);refine zC (λ_=>zw ?_) (λ_=>zw ?_)
 ·have hi:i<m.length:=by omega
  rw[qr2 m i hi,qdh]at Z;obtain⟨c0,af⟩:∃c0,c0=m[i]:=⟨_,rfl⟩
  have aj:c0.toNat<256:=c0.toBitVec.isLt;rw[<-af]at Z;refine ElemV.bs (hA.ext aa) ai i rfl Oo ?_;intro eb eo ad;rw[<-af]at ad;(conv=>whnf);refine LoadV.of ad (zw ?_)
  (repeat'(first|refine zp ?_|refine zC (λ_=>zw ?_) (λ_=>zw ?_)))
  all_goals first
   | exact⟨by rw[Z,Ab Oo];rfl,hx.trans aa⟩
   | skip
  all_goals
   rw[Aa Oo]at Z;obtain⟨g1,g2,g3⟩:=qir i n c0.toNat h9 hn aj Oo;refine Wit.eq (qa1 (k:=.u8) (m:=c0.toNat) 7 rfl ⟨by omega,by omega⟩ ⟨by omega,by omega⟩) (zu ?_);refine V.Wit.shlN (7*i) Oo (by show 7*i<64;omega) (qfa (by show c0.toNat%2 ^ 7*2 ^ (7*i)<_;rw[show 2 ^ 7=128 from rfl];omega)) (zw ?_);refine Wit.eq (qbr (7*i) (qfa g2) hn) (zw ?_)
   (repeat'(first|refine zp ?_|refine zC (λ_=>zw ?_) (λ_=>zw ?_)))
   all_goals first
    | (rw[Ab Oo]at Z;exact⟨by rw[Z];rfl,hx.trans aa⟩)
    | (rw[Aa Oo]at Z;exact⟨(i+1,n+c0.toNat%128*2 ^ (7*i)),fq,⟨by simp only;omega,by simp only;omega,g3 Oo,Z,aa⟩,by simp only;omega⟩)
 ·rw[AC Oo,qfq]at Z;exact⟨by rw[Z];rfl,hx.trans aa⟩
theorem qju:∀(l:LB) (i n:Nat),i<=9->n<2 ^ (7*i)->(qfq i n l).1<2 ^ 64/\(qfq i n l).2.1<=i+l.length/\((qfq i n l).2.2=0\/(qfq i n l).2.2=10\/(qfq i n l).2.2=11)
 | [],i,n,_,_=>⟨show 0<2 ^ 64 by decide,by simp[qfq],.inr (.inl rfl)⟩
 | c::l,i,n,hi,hn=>by
  rw[qdh]
  by_cases V:(i=9/\1<c.toNat)\/(0<i/\c.toNat=0)
  ·rw[Ab V];exact⟨by decide,Af _,.inr (.inr rfl)⟩
  ·rw[Aa V];have U:c.toNat<256:=c.toBitVec.isLt;obtain⟨g1,g2,g3⟩:=qir i n c.toNat hi hn U Oo
   by_cases Z:c.toNat<128
   ·rw[Ab Z];exact⟨g2,by simp only[Au];omega,.inl rfl⟩
   ·rw[Aa Z];have:=qju l (i+1) _ Oo (g3 Oo);refine⟨this.1,?_,this.2.2⟩;have:=this.2.1;simp only[Au];omega
theorem qav(l:LB):(numL l).1<2 ^ 64/\(numL l).2.1<=l.length/\((numL l).2.2=0\/(numL l).2.2=10\/(numL l).2.2=11):=by
 have:=qju l 0 0 Oo Od
 rwa[As]at this
def varS(l:LB)(U e:Nat):Nat×Nat×Nat:=if e≠0 then(0,U,e)else if(numL (l.drop U)).2.2≠0 then(0,U,(numL (l.drop U)).2.2)else((numL (l.drop U)).1,U+(numL (l.drop U)).2.1,0)
theorem qaae(b:Nat)(v:DF)(U e:Nat)(l:LB)(w:DA)(Z:w.heap[b]?=some (curO 367 v U e))(hv:BS w v l)(aa:U<=l.length)(hl:l.length<=140737488355328):
  Gv DM 314 [pp b,.int .u64 18446744073709551615] w λr w'=>r=.int .u64 (varS l U e).1/\Upd w w' b (curO 367 v (varS l U e).2.1 (varS l U e).2.2):=by
 have ad:=q9i b v U e l w Z hv aa hl;obtain⟨g1,g2,g3⟩:=qav (l.drop U);rw[zld]at g2;have af:2 ^ 64=18446744073709551616:=by decide
 refine ze Tryz.func314 Tryz.ntmps314 ?_;refine LoadV.own Z rfl (zw ?_);refine zC (λ_=>zw ?_) (λ_=>zw ?_)
 ·have hS:varS l U e=(0,U,e):=by rw[varS,Ab Oo]
  rw[hS];exact⟨rfl,Upd.refl Z⟩
 ·have ae:e=0:=by omega
  subst ae;refine zcv (ad) ?_;rintro r w1 ⟨rfl,he⟩;have V:=he.get Z;have hS:varS l U 0=if(numL (l.drop U)).2.2≠0 then(0,U,(numL (l.drop U)).2.2)else((numL (l.drop U)).1,U+(numL (l.drop U)).2.1,0):=by rw[varS,Aa Oo]
  (conv=>whnf);refine zC (λ_=>zu ?_) (λ_=>zu ?_)
  ·refine LoadV.own V rfl (zu ?_);refine StoreV.own V (show 1<3 by decide) rfl ?_;intro w2 hw;have hu:=(Upd.of Z he).trans (Upd.set V hw);rw[hS,Aa Oo];(conv=>whnf);exact⟨rfl,hu⟩
  ·refine StoreV.own V (show 2<3 by decide) rfl ?_;intro w2 hw;have hu:=(Upd.of Z he).trans (Upd.set V hw);rw[hS,Ab Oo];(conv=>whnf);exact⟨rfl,hu⟩
theorem qdj(b:Nat)(v:DF)(U e:Nat)(l:LB)(w:DA)(Z:w.heap[b]?=some (curO 367 v U e))(hv:BS w v l)(V:U<=l.length)(hl:l.length<=140737488355328):
  Gv DM 233 [pp b] w λr w'=>r=.int .u64 (varS l U e).1/\Upd w w' b (curO 367 v (varS l U e).2.1 (varS l U e).2.2):=by
 refine ze Tryz.func233 Tryz.ntmps233 ?_;refine zcv (qaae b v U e l w Z hv V hl) ?_;rintro r w1 ⟨rfl,hu⟩;(conv=>whnf);exact⟨rfl,hu⟩
theorem qbo(l:LB)(A:oA)(n c:Nat)(w:DA)(U:SlAt encB 1 w A l)(V:l.length=n)(Z:l.length<=140737488355328):
  Gv DM 180 [.slice A n c] w λv w'=>v=numV (numL l)/\w'=w:=by
 subst V;exact qz9 l A c w U Z
theorem q8l(b:Nat)(v:DF)(U e x:Nat)(w:DA)(V:w.heap[b]?=some (curO 309 v U e))(Z:e=0):
  Gv DM 325 [pp b,ii x] w λr w'=>r=.tuple #[]/\Upd w w' b (curO 309 v U x):=by
 subst Z;refine ze Tryz.func325 Tryz.ntmps325 ?_;refine LoadV.own V rfl (zu ?_);refine StoreV.own V (show 2<3 by decide) rfl λw2 hw=>zw ?_;exact⟨rfl,Upd.set V hw⟩
theorem qvl(b:Nat)(v:DF)(U e:Nat)(l:LB)(w:DA)(Z:w.heap[b]?=some (curO 309 v U e))(hv:BS w v l)(ad:U<=l.length)(hl:l.length<=140737488355328):
  Gv DM 250 [pp b,.int .u64 18446744073709551615] w λr w'=>r=.int .u64 (varS l U e).1/\Upd w w' b (curO 309 v (varS l U e).2.1 (varS l U e).2.2):=by
 obtain⟨A,c,rfl,hc,hS⟩:=hv;obtain⟨g1,g2,g3⟩:=qav (l.drop U);rw[zld]at g2;have ag:2 ^ 64=18446744073709551616:=by decide
 have ae:(l.drop U).take (l.length-U)=l.drop U:=Aj Js;refine ze Tryz.func250 Tryz.ntmps250 ?_;refine LoadV.own Z rfl (zw ?_);refine zC (λ_=>zw ?_) (λ_=>zw ?_)
 ·have hS:varS l U e=(0,U,e):=by rw[varS,Ab Oo]
  rw[hS];exact⟨rfl,Upd.refl Z⟩
 ·have af:e=0:=by omega
  subst af;have hE:varS l U 0=if(numL (l.drop U)).2.2≠0 then(0,U,(numL (l.drop U)).2.2)else((numL (l.drop U)).1,U+(numL (l.drop U)).2.1,0):=by rw[varS,Aa Oo]
  refine zy ?_;refine zv ?_;refine LoadV.own Z rfl (zu ?_);refine LoadV.own Z rfl (zu ?_);refine SliceV.bs hS rfl U l.length c rfl rfl rfl ad znr hc znr (λh=>by cases h) ?_;intro A' aa;rw[ae]at aa;refine zu ?_;refine⟨numV (numL (l.drop U)),qbo (l.drop U) A' _ _ _ (aa.ext (Ext.refl w).drew) Js Ys,?_⟩;(conv=>whnf);refine zt ?_;refine zC (λ_=>zu ?_) (λ_=>zu ?_);have he:Ext w w.drew:=(Ext.refl w).drew;have V:=he.get Z
  ·refine LoadV.own V rfl (zu ?_);refine StoreV.own V (show 1<3 by decide) rfl ?_;intro w2 hw;have hu:=(Upd.of Z he).trans (Upd.set V hw);rw[hE,Aa Oo];(conv=>whnf);exact⟨rfl,hu⟩
  ·have he:Ext w w.drew:=(Ext.refl w).drew;have V:=he.get Z;refine zcv (q8l b _ U 0 (numL (l.drop U)).2.2 _ V rfl) ?_;rintro r w2 ⟨rfl,hu⟩;have hu:=(Upd.of Z he).trans hu;rw[hE,Ab Oo];(conv=>whnf);exact⟨rfl,hu⟩
theorem qqf(b:Nat)(v:DF)(U e:Nat)(l:LB)(w:DA)(Z:w.heap[b]?=some (curO 309 v U e))(hv:BS w v l)(V:U<=l.length)(hl:l.length<=140737488355328):
  Gv DM 178 [pp b] w λr w'=>r=.int .u64 (varS l U e).1/\Upd w w' b (curO 309 v (varS l U e).2.1 (varS l U e).2.2):=by
 refine ze Tryz.func178 Tryz.ntmps178 ?_;refine zcv (qvl b v U e l w Z hv V hl) ?_;rintro r w1 ⟨rfl,hu⟩;(conv=>whnf);exact⟨rfl,hu⟩
def leN:LB->Nat
 | []=>0
 | c::l=>c.toNat+256*leN l
theorem qxy(l:LB):leN l<256 ^ l.length:=by
 induction l with
 | nil=>decide
 | cons c l V=>
  have U:c.toNat<256:=c.toBitVec.isLt
  grind [leN]
theorem q4a(l m:LB):leN (l++m)=leN l+256 ^ l.length*leN m:=by
 induction l<;>grind [leN]
theorem q39(h:4<=l.length):leN (l.take 4)=l[0].toNat+l[1].toNat*2 ^ 8+l[2].toNat*2 ^ 16+l[3].toNat*2 ^ 24:=by
 match l,h with
 | a::b::c::d::r,_=>grind [leN]
theorem qagi(h:2<=l.length):leN (l.take 2)=l[0].toNat+l[1].toNat*2 ^ 8:=by
 match l,h with
 | a::b::r,_=>grind [leN]
theorem qak{n:Nat}(h:n<9223372036854775808):InR .i64 (n:Int):=⟨by omega,by omega⟩
theorem q9(c:DE):c.toNat<256:=c.toBitVec.isLt
theorem qfp(l:LB)(A:oA)(n c:Nat)(w:DA)(hS:SlAt encB 1 w A l)(Z:l.length=n)(h4:4<=l.length):
  Gv DM 103 [.slice A n c] w λv w'=>v=ii (leN (l.take 4))/\Ext w w':=by
 have hA:=hS.ext (Ext.refl w).drew;have b0:=q9 l[0];have b1:=q9 l[1];have b2:=q9 l[2];have b3:=q9 l[3];rw[q39 h4];refine ze Tryz.func103 Tryz.ntmps103 ?_;refine zy ?_;refine zv ?_;refine ElemV.bs hA Z 0 rfl Oo ?_;intro eb eo U;refine zu ?_;refine LoadV.of U (zu ?_);refine ElemV.bs hA Z 1 rfl Oo ?_;intro eb eo U;refine zu ?_;refine LoadV.of U (zu ?_);refine V.Wit.shlN 8 rfl Od (qak Oo) (zu ?_);refine Wit.eq (qbr 8 (qak Oo) b0) (zu ?_);refine ElemV.bs hA Z 2 rfl Oo ?_;intro eb eo U;refine zu ?_;refine LoadV.of U (zu ?_);refine V.Wit.shlN 16 rfl Od (qak Oo) (zu ?_);refine Wit.eq (qbr 16 (qak Oo) Oo) (zu ?_);refine ElemV.bs hA Z 3 rfl Oo ?_;intro eb eo U;refine zu ?_;refine LoadV.of U (zu ?_);refine V.Wit.shlN 24 rfl Od (qak Oo) (zu ?_);refine Wit.eq (qbr 24 (qak Oo) Oo) (zu ?_);exact⟨rfl,(Ext.refl w).drew⟩
theorem qpf(l:LB)(A:oA)(n c:Nat)(w:DA)(hS:SlAt encB 1 w A l)(Z:l.length=n)(h4:4<=l.length):
  Gv DM 299 [.slice A n c] w λv w'=>v=ii (leN (l.take 4))/\Ext w w':=by
 have hA:=hS.ext (Ext.refl w).drew;have b0:=q9 l[0];have b1:=q9 l[1];have b2:=q9 l[2];have b3:=q9 l[3];rw[q39 h4];refine ze Tryz.func299 Tryz.ntmps299 ?_;refine zy ?_;refine zv ?_;refine ElemV.bs hA Z 0 rfl Oo ?_;intro eb eo U;refine zu ?_;refine LoadV.of U (zu ?_);refine ElemV.bs hA Z 1 rfl Oo ?_;intro eb eo U;refine zu ?_;refine LoadV.of U (zu ?_);refine V.Wit.shlN 8 rfl Od (qak Oo) (zu ?_);refine Wit.eq (qbr 8 (qak Oo) b0) (zu ?_);refine ElemV.bs hA Z 2 rfl Oo ?_;intro eb eo U;refine zu ?_;refine LoadV.of U (zu ?_);refine V.Wit.shlN 16 rfl Od (qak Oo) (zu ?_);refine Wit.eq (qbr 16 (qak Oo) Oo) (zu ?_);refine ElemV.bs hA Z 3 rfl Oo ?_;intro eb eo U;refine zu ?_;refine LoadV.of U (zu ?_);refine V.Wit.shlN 24 rfl Od (qak Oo) (zu ?_);refine Wit.eq (qbr 24 (qak Oo) Oo) (zu ?_);exact⟨rfl,(Ext.refl w).drew⟩
theorem qafa(l:LB)(A:oA)(n c:Nat)(w:DA)(hS:SlAt encB 1 w A l)(Z:l.length=n)(h4:2<=l.length):
  Gv DM 300 [.slice A n c] w λv w'=>v=ii (leN (l.take 2))/\Ext w w':=by
 have hA:=hS.ext (Ext.refl w).drew;have b0:=q9 l[0];have b1:=q9 l[1];rw[qagi h4];refine ze Tryz.func300 Tryz.ntmps300 ?_;refine zy ?_;refine zv ?_;refine ElemV.bs hA Z 0 rfl Oo ?_;intro eb eo U;refine zu ?_;refine LoadV.of U (zu ?_);refine ElemV.bs hA Z 1 rfl Oo ?_;intro eb eo U;refine zu ?_;refine LoadV.of U (zu ?_);refine V.Wit.shlN 8 rfl Od (qak Oo) (zu ?_);refine Wit.eq (qbr 8 (qak Oo) b0) (zu ?_);exact⟨rfl,(Ext.refl w).drew⟩
theorem qagj(h:a+4<=l.length):leN ((l.drop a).take 4)=l[a].toNat+l[a+1].toNat*2 ^ 8+l[a+2].toNat*2 ^ 16+l[a+3].toNat*2 ^ 24:=by
 grind [q39]
theorem qy4(l:LB)(A:oA)(n c a:Nat)(w:DA)(hS:SlAt encB 1 w A l)(Z:l.length=n)(h4:a+4<=l.length)(hl:l.length<=140737488355328):
  Gv DM 361 [.slice A n c,ii a] w λv w'=>v=ii (leN ((l.drop a).take 4))/\Ext w w':=by
 have hA:=hS.ext (Ext.refl w).drew;have b0:=q9 l[a];have b1:=q9 l[a+1];have b2:=q9 l[a+2];have b3:=q9 l[a+3];rw[qagj h4];refine ze Tryz.func361 Tryz.ntmps361 ?_;refine zy ?_;refine zv ?_;refine ElemV.bs hA Z a rfl Oo ?_;intro eb eo U;refine zu ?_;refine LoadV.of U (zu ?_);refine ElemV.bs hA Z (a+1) Oo Oo ?_;intro eb eo U;refine zu ?_;refine LoadV.of U (zu ?_);refine V.Wit.shlN 8 rfl Od (qak Oo) (zu ?_);refine ElemV.bs hA Z (a+2) Oo Oo ?_;intro eb eo U;refine zu ?_;refine LoadV.of U (zu ?_);refine V.Wit.shlN 16 rfl Od (qak Oo) (zu ?_);refine ElemV.bs hA Z (a+3) Oo Oo ?_;intro eb eo U;refine zu ?_;refine LoadV.of U (zu ?_);refine V.Wit.shlN 24 rfl Od (qak Oo) (zu ?_);exact⟨Js,(Ext.refl w).drew⟩
namespace V
theorem Mem.fresh{o:Obj}(h:Mem w0 w L)(Z:Ext w w')(hb:w.heap.size<=b)(ho:w'.heap[b]?=some o):Mem w0 w' ((b,o)::L):=by
 have V:=h.call Z;refine⟨V.ext,λx U=>?_,?_⟩
 ·rcases Ay.1 U with rfl|U
  ·exact⟨AE h.ext.size hb,ho⟩
  ·exact V.own x U
 ·simp only[AB,C8];refine⟨λhm=>?_,h.nodup⟩;obtain⟨x,U,e⟩:=AA.1 hm;have:=h.lt (b:=x.1) (o:=x.2) U;omega
theorem Fall.max2{c:Call}{k:IntKind}{x y:Int}(V:o.op=.call c)(Z:c.callee=.builtin .max)(U:evs ρ c.args.toList=[.int k x,.int k y])(h:∀m,m=max x y->K (.int k m) w):Fall P (execOp (ev ρ) o) w K:=by
 have e:execOp (ev ρ) o=(do pure (.value (<-Builtin.max_ c.argTypes o.type (c.args.map (ev ρ))))):=by
  simp only[execOp,V,resolve,Z];rfl
 have ha:c.args.map (ev ρ)=#[.int k x,.int k y]:=by
  rw[qea]at U;rw[<-Bh];simpa using U
 refine⟨.inl ⟨_,w,?_,h _ rfl⟩⟩;rw[e,ha];simp only[Sem.run_bind,run_max_int2,Result.andThen_ok,Sem.run_pure]
 congr 3
 rw[Int.max_def]
 split<;>(try split)<;>omega
theorem Fall.min2{c:Call}{k:IntKind}{x y:Int}(V:o.op=.call c)(Z:c.callee=.builtin .min)(U:evs ρ c.args.toList=[.int k x,.int k y])(h:∀m,m=min x y->K (.int k m) w):Fall P (execOp (ev ρ) o) w K:=by
 have e:execOp (ev ρ) o=(do pure (.value (<-Builtin.min_ c.argTypes o.type (c.args.map (ev ρ))))):=by
  simp only[execOp,V,resolve,Z];rfl
 have ha:c.args.map (ev ρ)=#[.int k x,.int k y]:=by
  rw[qea]at U;rw[<-Bh];simpa using U
 refine⟨.inl ⟨_,w,?_,h _ rfl⟩⟩;rw[e,ha];simp only[Sem.run_bind,run_min_int2,Result.andThen_ok,Sem.run_pure]
 congr 3
 rw[Int.min_def]
 split<;>(try split)<;>omega
end V
theorem qex(v:DF)(l:LB)(w:DA)(U:BS w v l):
  Gv DM 159 [v] w λr w'=>∃b,r=pp b/\w.heap.size<=b/\w'.heap[b]?=some (curO 367 v 0 0)/\Ext w w':=by
 obtain⟨A,c,rfl,hc,hS⟩:=U;refine ze Tryz.func159 Tryz.ntmps159 ?_;refine⟨λb w' V Z=>?_⟩;subst V Z;(conv=>whnf);exact⟨w.heap.size,rfl,Ai _,heap_alloc_new w _,(Ext.refl w).alloc _⟩
theorem qjk(b:Nat)(v:DF)(a e:Nat)(w:DA)(U:w.heap[b]?=some (curO 367 v a e)):Gv DM 166 [pp b] w λr w'=>r=ii a/\w'=w:=by
 refine ze Tryz.func166 Tryz.ntmps166 ?_;refine LoadV.own U rfl (zw ?_);exact⟨rfl,rfl⟩
theorem qcf(b:Nat)(v:DF)(a e:Nat)(w:DA)(U:w.heap[b]?=some (curO 367 v a e)):Gv DM 234 [pp b] w λr w'=>r=ii e/\w'=w:=by
 refine ze Tryz.func234 Tryz.ntmps234 ?_;refine LoadV.own U rfl (zw ?_);exact⟨rfl,rfl⟩
theorem qps(b:Nat)(v:DF)(a e:Nat)(l:LB)(w:DA)(U:w.heap[b]?=some (curO 367 v a e))(V:BS w v l)(Z:a<=l.length)(hl:l.length<=140737488355328):
  Gv DM 313 [pp b] w λr w'=>r=ii (l.length-a:Nat)/\Ext w w':=by
 obtain⟨A,c,rfl,hc,hS⟩:=V;refine ze Tryz.func313 Tryz.ntmps313 ?_;refine zy ?_;refine zv ?_;refine LoadV.own U rfl (zu ?_);refine LoadV.own U rfl (zu ?_);exact⟨Ad (Value.int .i64) Oo,(Ext.refl w).drew⟩
theorem q0a(w:DA):Gv DM 195 [ii 4] w λr w'=>r=ii 4/\w'=w:=by
 refine ze Tryz.func195 Tryz.ntmps195 ?_;refine V.Fall.max2 rfl rfl rfl λm U=>?_;obtain rfl:m=4:=by omega
 refine V.Fall.min2 rfl rfl rfl λm U=>?_;obtain rfl:m=4:=by omega
 (conv=>whnf);exact⟨rfl,rfl⟩
theorem q99(b:Nat)(v:DF)(a n:Nat)(l:LB)(w:DA)(hb:w.heap[b]?=some (curO 367 v a 0))(hv:BS w v l)(ha:a+n<=l.length)(hl:l.length<=140737488355328)(ad:∀A c,v=.slice A l.length c->True):
  Gv DM 231 [pp b,ii n] w λr w'=>(∃A' c',r=.slice A' n c'/\SlAt encB 1 w A' ((l.drop a).take n))/\Upd w w' b (curO 367 v (a+n) 0):=by
 have V:=qps b v a 0 l w hb hv Oo hl;obtain⟨A,c,rfl,hc,hS⟩:=hv;refine ze Tryz.func231 Tryz.ntmps231 ?_;refine LoadV.own hb rfl (zu ?_);refine zcv (V) ?_;rintro r w1 ⟨rfl,he⟩;have Z:=he.get hb;refine zu ?_;refine LoadV.own Z rfl (zu ?_);refine StoreV.own Z (show 1<3 by decide) rfl ?_;intro w2 hw;have hu:=(Upd.of hb he).trans (Upd.set Z hw);have U:w2.heap[b]?=some (curO 367 (.slice A l.length c) (a+n) 0):=hu.at_;(conv=>whnf);refine zy ?_;refine zv ?_;refine LoadV.own U rfl (zu ?_);refine LoadV.own U rfl (zu ?_);refine LoadV.own U rfl (zu ?_);refine SliceV.bs hS rfl a (a+n) c (by show(((a+n:Nat):Int)-(n:Int))=(a:Int);omega) rfl rfl Oo ha Oo znr (λh=>by cases h) ?_;intro A' aa;refine zu ?_;have e:a+n-a=n:=by omega
 rw[e]at aa|-;exact⟨⟨A',_,rfl,aa⟩,hu.trans (Upd.of U (Ext.refl w2).drew)⟩
def qal(a b:TM):Bool:=decide (a.kind=b.kind)&&(seq a.text b.text&&(seq a.type b.type&&seq a.lang b.lang))
theorem q7{a b:TM}:qal a b=true↔a=b:=by
 obtain⟨a0,a1,a2,a3⟩:=a;obtain⟨U,b1,b2,V⟩:=b;simp[qal,qab]
theorem qzq:DM.underlying 45=some (.struct (DM.fieldsOf 45)):=by kernel_rfl
theorem q6h:DM.stoodInHeld 45=false:=by kernel_rfl
theorem q3j:DM.eqGuardType DM.depth 45=false:=by kernel_rfl
theorem qa0(d:Nat)(a b:TM)(w:DA):(Op.equalIn (d+2) 45 (qy a) (qy b)).run DM w=.ok (qal a b) w:=by
 have u3:=Tryz.underlying3;have a3:=Tryz.isAgg3;have z3:=Tryz.sizeOf3;have u9:=Tryz.underlying9;have a9:=Tryz.isAgg9;have z9:=Tryz.sizeOf9;simp only[qy];rw[run_equalIn_agg w (d+1) _ _ _ qzq q6h];simp only[Program.fieldsOf,Tryz.underlying45]
 go_simp
 have e:∀x y:DB,(x.toList=y.toList)=(seq x y=true):=λx y=>by rw[<-qnl,CI]
 simp only[e]
 by_cases U:a.kind=b.kind<;>cases V:seq a.text b.text<;>cases Z:seq a.type b.type<;>cases h4:seq a.lang b.lang<;>simp[qal,U,V,Z,h4]
namespace V
theorem RunV.eqTerm{U:BinOp}{a b:TM}(V:U=.eql\/U=.neq)(h:K (.bool (bif eqOp U then qal a b else !qal a b)) w):
  RunV DM (do eqGuard U 45 xo yo (qy a) (qy b);binOp U 45 (qy a) (qy b)) w K:=by
 refine⟨_,w,?_,h⟩;rw[Sem.run_bind,qy,qy,run_eqGuard_agg w U _ xo yo _ _ q3j,Result.andThen_ok];have e:=qa0 9998 a b w;simp only[qy]at e
 rcases V with rfl|rfl
 ·rw[run_eql_struct,e];rfl
 ·rw[run_neq_struct,e];rfl
end V
def q1r(t:TM):Bool:=decide (t.kind=0)&&(seq t.text ⟨#[]⟩&&(seq t.type ⟨#[]⟩&&seq t.lang ⟨#[]⟩))
def canB(k:Nat)(t:TM):Bool:=
 if k=0 then decide (t.kind=1)||decide (t.kind=2)else if k=1 then decide (t.kind=1)else if k=2 then decide (1<=t.kind)&&decide (t.kind<=3)else q1r t||decide (t.kind=1)||decide (t.kind=2)
def qgi:DL->Nat
 | []=>0
 | e::l=>if e≠0 then e else qgi l
theorem qg0{l:DL}(h:∀j (U:j<l.length),l[j]=0):qgi l=0:=by
 induction l with
 | nil=>rfl
 | cons x l V=>
  have Z:=h 0 Js;simp only[BT]at Z;rw[qgi,Aa Oo];exact V λj U=>by have:=h (j+1) Ys;rwa[Db]at this
theorem qrw{l:DL}(V:k<l.length)(h:∀j (Z:j<l.length),j<k->l[j]=0)(U:l[k]≠0):qgi l=l[k]:=by
 induction l generalizing k with
 | nil=>simp at V
 | cons x l ih=>
  cases k with
  | zero=>simp only[BT]at U|-;rw[qgi,Ab U]
  | succ k=>
   have h0:=h 0 Js Oo;simp only[BT]at h0;rw[qgi,Aa Oo];simp only[Db]at U|-;exact ih (by simpa using V) (λj Z aa=>by have:=h (j+1) Ys Oo;rwa[Db]at this) U
theorem CellsAt.mem{t:DD}(h:Mem w0 w L)(hi:(b,Obj.cells cs t fr)∈L):CellsAt w b 0 cs.toList:=λk v U=>by
 rw[qa (h.get hi),As]
 simpa using U
namespace V
theorem StoreA.rwAll{v:DF}{e:DD}{U n:Nat}{t:DD}{K:DI}(h:Rw w0 w v e U n xs ((b,.cells cur t)::L))(hl:cur.size=vs.length)(h1:∀v∈vs,v.oneCell'=true)(V:∀w',Rw w0 w' v e U n xs ((b,.cells vs.toArray t)::L)->K w'):StoreA P w b 0 vs K:=by
 have hg:=h.mem.get mh;have hb:v.ownBlock≠some b:=h.apart _ mh;have hr:=run_storeCells_at P b 0 t vs 0 cur w hg Ys h1;have ec:(cur.toList.take (0+0)++vs++cur.toList.drop (0+0+vs.length)).toArray=vs.toArray:=by
  rw[Br,Bi,AC Ys,Bl]
 rw[ec]at hr;refine⟨_,hr,V _ ⟨?_,?_,λy Z=>?_⟩⟩
 ·have:=h.mem.set (i:=0) (b:=b) (o:=.cells cur t) (o':=.cells vs.toArray t) rfl (w':=w.setRow b vs.toArray) ?_ (qb8 hg) (λc hc=>qu hc)
  ·exact this
  ·exact Below.trans h.mem.ext ⟨rfl,rfl,rfl,by simp[World.setRow],λk V=>qu (by have:=(h.mem.own _ mh).1;simp only at this;omega)⟩
 ·refine h.own.kept (row:=some b) ⟨rfl,rfl,rfl,by simp[World.setRow],λk _ V=>qu (λe=>V (by simp[e]))⟩ (Or.inr hb)
 ·rcases Ay.1 Z with rfl|Z
  ·exact hb
  ·exact h.apart y (zmc Z)
end V
theorem q1e(k:Nat)(t:TM)(w:DA):Gv DM 135 [ii k,qy t] w λv w'=>v=.bool (canB k t)/\Ext w w':=by
 refine ze Tryz.func135 Tryz.ntmps135 ?_;refine znm (Mem.nil w) λb w1 U=>zw ?_
 (repeat'(first|refine zp ?_|refine zC (λ_=>zw ?_) (λ_=>zw ?_)|refine LoadV.mem (i:=0) Oa rfl rfl (zw ?_)))
 ·exact⟨Ad Value.bool (by rw[canB,Ab Oo];simp[*]),U.ext⟩
 ·exact⟨Ad Value.bool (by rw[canB,Ab Oo];simp[*]),U.ext⟩
 ·exact⟨Ad Value.bool (by rw[canB,Aa Oo,Ab Oo]),U.ext⟩
 ·exact⟨Ad Value.bool (by rw[canB,Aa Oo,Aa Oo,Ab Oo,AD];simp;omega),U.ext⟩
 ·exact⟨Ad Value.bool (by rw[canB,Aa Oo,Aa Oo,Ab Oo,AD];simp;omega),U.ext⟩
 ·exact⟨Ad Value.bool (by rw[canB,Aa Oo,Aa Oo,Ab Oo,AD];simp;omega),U.ext⟩
 ·exact⟨Ad Value.bool (by rw[canB,Aa Oo,Aa Oo,Aa Oo];simp[*]),U.ext⟩
 ·exact⟨Ad Value.bool (by rw[canB,Aa Oo,Aa Oo,Aa Oo];simp[*]),U.ext⟩
 ·refine zl U 0 ?_;refine zv ?_;refine RunV.eqTerm (a:=t) (b:=⟨0,⟨#[]⟩,⟨#[]⟩,⟨#[]⟩⟩) (.inl rfl) ?_;have V:canB k t=(q1r t||decide (t.kind=1)||decide (t.kind=2)):=by rw[canB,Aa Oo,Aa Oo,Aa Oo]
  have Z:qal t ⟨0,⟨#[]⟩,⟨#[]⟩,⟨#[]⟩⟩=q1r t:=rfl;rw[Z];refine zu ?_;exact⟨Ad Value.bool (by rw[V];simp[*,eqOp]),U.ext⟩
structure Q4 where
 s:TM
 p:TM
 o:TM
 g:TM
def Q4.at(q:Q4):Nat->TM
 | 0=>q.s
 | 1=>q.p
 | 2=>q.o
 | _=>q.g
def qm(q:Q4):DK:=encT q.s++(encT q.p++(encT q.o++encT q.g))
def q4(q:Q4):DF:=.agg #[ii q.s.kind,.string q.s.text,.string q.s.type,.string q.s.lang,ii q.p.kind,.string q.p.text,.string q.p.type,.string q.p.lang,
 ii q.o.kind,.string q.o.text,.string q.o.type,.string q.o.lang,ii q.g.kind,.string q.g.text,.string q.g.type,.string q.g.lang]
noncomputable def qE(k:Nat)(t:TM):Nat:=if canB k t=false then 70 else if k=3/\t.kind=0 then 0 else qam t
noncomputable def qdd(q:Q4):Nat:=qgi ((List.range 4).map λk=>qE k (q.at k))
theorem qr{q:Q4}(h:CellsAt w b off (qm q))(k:Nat)(V:k<4):CellsAt w b (off+k*4) (encT (q.at k)):=by
 intro j v U;have Z:j<4:=(Ae.1 U).1;have:=h (k*4+j) v (by
  obtain rfl|rfl|rfl|rfl:k=0\/k=1\/k=2\/k=3:=by omega
  all_goals
   obtain rfl|rfl|rfl|rfl:j=0\/j=1\/j=2\/j=3:=by omega
   all_goals exact U)
 rwa[<-Cb]at this
theorem qaa(t:TM):∀v∈encT t,v.oneCell'=true:=by
 intro v U;simp only[encT,Ay,Ci,or_false]at U
 rcases U with rfl|rfl|rfl|rfl<;>rfl
def qcl(q:Q4):Prop:=∀k,TermOk (q.at k)
theorem qsq(q:Q4)(k:Nat)(U:k<4):((q4 q).cells.toList.drop (k*4)).take 4=encT (q.at k):=by
 obtain rfl|rfl|rfl|rfl:k=0\/k=1\/k=2\/k=3:=by omega
 all_goals rfl
theorem qow(q:Q4)(hq:qcl q)(w:DA)(hM:MaxLenAt w)(hT:CellsAt w 4 0 qb3):Gv DM 66 [q4 q] w λv w'=>v=ii (qdd q)/\Ext w w':=by
 refine ze Tryz.func66 Tryz.ntmps66 ?_;refine znm (Mem.nil w) ?_;intro b w1 hm;have hc:CellsAt w1 b 0 (qm q):=CellsAt.mem hm mh;refine LoadA.cells (qr hc 0 Oo) rfl ?_;refine LoadA.cells (qr hc 1 Oo) rfl ?_;refine LoadA.cells (qr hc 2 Oo) rfl ?_;refine LoadA.cells (qr hc 3 Oo) rfl (zw ?_);have Z:((List.range 4).map λk=>qE k (q.at k)).length=4:=by simp
 have U:∀j (hj:j<((List.range 4).map λk=>qE k (q.at k)).length),((List.range 4).map λk=>qE k (q.at k))[j]=qE j (q.at j):=λj hj=>by simp
 refine qq (λk:Nat=>[(1,pp b),(2,ii 0),(14,q4 q),(15,ii k)])
  (λk w'=>k<=4/\(∀j,j<k->qE j (q.at j)=0)/\Mem w w' [(b,.cells (qm q).toArray 47)]) (λk=>4-k) 0 fq ⟨by omega,λj h0=>by omega,hm⟩ ?_
 rintro k w2 am ⟨k1,k2,ag⟩;(conv=>whnf);refine zC (λ_=>zu ?_) (λ_=>zu ?_)
 ·have hk:k<4:=by omega
  have af:∀e,qE k (q.at k)=e->e≠0->qdd q=e:=λe he ai=>by
   rw[qdd,qrw (k:=k) (by rw[Z];exact hk) (λj hj aj=>by rw[U];exact k2 j aj) (by rw[U,he];exact ai),U,he]
  have aa:qE k (q.at k)=0->∀j,j<k+1->qE j (q.at j)=0:=λhe j hj=>by
   by_cases e:j=k
   ·subst e;exact he
   ·exact k2 j Oo
  refine Wit.eq (y:=encT (q.at k)) (qsq q k hk) ?_;refine znm ag ?_;intro r w3 ak;refine StoreA.all (vs:=encT (q.at k)) ak (i:=0) rfl rfl (qaa _) ?_;intro w4 ae;have ae:Mem w w4 [(r,.cells (encT (q.at k)).toArray 45),_]:=ae;refine zl ae 0 ?_;refine zcv (q1e k (q.at k) w4) ?_;rintro v w5 ⟨rfl,al⟩;have V:=ae.call al;cases ad:canB k (q.at k)
  ·refine zu ?_;exact⟨by rw[af 70 (by rw[qE,Ab ad]) Od];rfl,V.ext⟩
  ·(conv=>whnf)
   (repeat'(first|refine zp ?_|refine zC (λ_=>zw ?_) (λ_=>zw ?_)|refine LoadV.mem (i:=0) Oa rfl rfl (zw ?_)))
   ·refine⟨?_,V.ext⟩;have e0:qE k (q.at k)=0:=by rw[qE,Aa (by rw[ad];simp),Ab ⟨by omega,by omega⟩]
    have h4:=aa e0;rw[qdd,qg0 λj hj=>by rw[U];exact h4 j (by rw[Z]at hj;omega)];rfl
   all_goals
    have hE:qE k (q.at k)=qam (q.at k):=by rw[qE,Aa (by rw[ad];simp),Aa Oo]
    refine zl V 0 ?_;refine zcv (qib (q.at k) (hq k) w5 (hM.ext V.ext) (hT.ext V.ext)) ?_;rintro v w6 ⟨rfl,ah⟩;rw[<-hE];conv=>whnf
    (repeat'(first|refine zp ?_|refine zC (λ_=>zw ?_) (λ_=>zw ?_)))
    ·exact⟨by rw[af _ rfl Oo],V.ext.trans ah⟩
    ·exact⟨k+1,fq,⟨by omega,aa Oo,(V.call ah).sub (Ak ..)⟩,by omega⟩
 ·refine⟨?_,ag.ext⟩;rw[qdd,qg0 λj hj=>by rw[U];exact k2 j (by rw[Z]at hj;omega)];rfl
theorem qkj(l:LB)(i:Nat)(h:i<l.length):leN (l.take (i+1))=leN (l.take i)+l[i].toNat*2 ^ (8*i):=by
 rw[AP h,q4a,Ar,Bq Oo];have:(256:Nat) ^ i=2 ^ (8*i):=by rw[Nat.pow_mul]
 rw[this,leN,leN,Nat.mul_zero,Bt,Cg]
theorem qap(l:LB)(i:Nat)(h:i<=l.length):leN (l.take i)<2 ^ (8*i):=by
 have:=qxy (l.take i);rw[Ar,Bq h]at this;have e:(256:Nat) ^ i=2 ^ (8*i):=by rw[Nat.pow_mul]
 rwa[e]at this
theorem pow8(i:Nat)(hi:i<=4):2 ^ (8*i)<=4294967296:=by
 have:2 ^ (8*i)<=2 ^ 32:=Bg Od Oo
 simpa using this
theorem V.SlAt.upd{t:DD}{o:Obj}(h:SlAt encB 1 w A l)(hb:w.heap[b]?=some (.cells cs t fr))(V:∀v∈cs.toList,∀n,v≠.int .u8 n)(hu:Upd w w' b o):SlAt encB 1 w' A l:=by
 refine⟨λZ=>?_⟩;obtain⟨g,off,e,hc⟩:=h.at_ Z;refine⟨g,off,e,λj x hx k v hv=>?_⟩;have U:=hc j x hx k v hv;have aa:v=.int .u8 x.toNat:=by
  cases k with
  | zero=>simpa[encB]using hv.symm
  | succ k=>simp[encB]at hv
 have ad:g<w.heap.size:=by
  rcases AN g w.heap.size with h|h
  ·exact h
  ·unfold World.cell? at U;rw[Bz h]at U;cases U
 have ae:g≠b:=by
  rintro rfl;rw[qa hb]at U;exact V v (by rw[<-CC]at U;exact zmg U) _ aa
 unfold World.cell? at U|-;rw[hu.block g ad ae];exact U
theorem qacw{v:DF}{e:Nat}(V:∃A n c,v=.slice A n c):∀u∈(#[v,ii a,ii e]:DN).toList,∀n,u≠.int .u8 n:=by
 obtain⟨A,m,c,rfl⟩:=V;intro u U n;simp at U
 rcases U with rfl|rfl|rfl<;>simp
theorem qiw(b:Nat)(v:DF)(a:Nat)(l:LB)(w:DA)(hb:w.heap[b]?=some (curO 367 v a 0))(hv:BS w v l)(ha:a+4<=l.length)(hl:l.length<=140737488355328):
  Gv DM 160 [pp b,ii 4] w λr w'=>r=.int .u64 (leN ((l.drop a).take 4))/\Upd w w' b (curO 367 v (a+4) 0):=by
 have Z:=λw=>q99 b v a 4 l w
 refine ze Tryz.func160 Tryz.ntmps160 ?_;refine zcv (q0a w) ?_;rintro r w1 ⟨rfl,rfl⟩;(conv=>whnf);refine zcv (Z w1 hb hv ha hl (λ_ _ _=>trivial)) ?_;rintro r w2 ⟨⟨A',c',rfl,hS⟩,hu⟩;have aa:=hv;obtain⟨A,c,ad,_,_⟩:=aa;have U:SlAt encB 1 w2 A' ((l.drop a).take 4):=V.SlAt.upd hS hb (qacw ⟨_,_,_,ad⟩) hu;obtain⟨m,hm⟩:∃m,m=(l.drop a).take 4:=⟨_,rfl⟩
 have ae:m.length=4:=by rw[hm];simp;omega
 rw[<-hm]at U|-;refine qq (λi:Nat=>[(11,.slice A' 4 c'),(12,ii 4),(13,ii i),(5,.int .u64 (leN (m.take i)))]) (λi w3=>i<=4/\w3=w2) (λi=>4-i) 0 fq ⟨by omega,rfl⟩ ?_;rintro i w3 ag ⟨i1,rfl⟩;(conv=>whnf);refine zC (λ_=>zw ?_) (λ_=>zw ?_)
 ·have hi:i<m.length:=by omega
  have ah:=q9 m[i];have hp:=pow8 (i+1) Oo;have af:=qap m (i+1) Oo;rw[qkj m i hi]at af;refine ElemV.bs U ae i rfl Oo ?_;intro eb eo hc;refine LoadV.of hc (zu ?_);have ai:2 ^ 64=18446744073709551616:=by decide
  refine V.Wit.shlN (8*i) Oo (by show 8*i<64;omega) (qfa Oo) ?_;refine Wit.eq (qbr (8*i) (qfa Oo) (qap m i Oo)) (zu ?_);exact⟨i+1,⟨rfl,rfl,rfl,by rw[qkj m i hi];rfl,trivial⟩,⟨by omega,rfl⟩,by omega⟩
 ·rw[Aj Oo];exact⟨rfl,hu⟩
structure ErrAt(w:DA)(v:DF)(place code:Nat):Prop where
 h:∃b,v=.iface 123 (pp b)/\CellsAt w b 0 [ii place,.iface 83 (ii code)]
theorem ErrAt.ext{v:DF}{p:Nat}(h:ErrAt w v p c)(U:Ext w w'):ErrAt w' v p c:=by
 obtain⟨b,V,Z⟩:=h;exact⟨b,V,Z.ext U⟩
theorem qaee(p c:Nat)(w:DA):Gv DM 158 [ii p,ii c] w λv w'=>ErrAt w' v p c/\Ext w w':=by
 refine ze Tryz.func158 Tryz.ntmps158 ?_;refine znm (Mem.nil w) λb V U=>zw ?_;exact⟨⟨b,rfl,CellsAt.mem U mh⟩,U.ext⟩
def poly:BitVec 32:=0xedb88320#32
def nibs:DL:=[0x00000000,0x1db71064,0x3b6e20c8,0x26d930ac,0x76dc4190,0x6b6b51f4,0x4db26158,0x5005713c,0xedb88320,0xf00f9344,0xd6d6a3e8,0xcb61b38c,0x9b64c2b0,0x86d3d2d4,0xa00ae278,0xbdbdf21c]
def nib(i:Nat):BitVec 32:=BitVec.ofNat 32 (nibs.getD i 0)
def qou(r:BitVec 32)(d:Bool):BitVec 32:=(r >>> 1) ^^^ (if(r.getLsbD 0 ^^ d)=true then poly else 0#32)
def qd8(r:BitVec 32):BitVec 32:=qou r false
def half(r:BitVec 32):BitVec 32:=nib (r.toNat%16) ^^^ (r >>> 4)
theorem xlc(a b c:BitVec 32):a ^^^ (b ^^^ c)=b ^^^ (a ^^^ c):=by rw[<-BitVec.xor_assoc,BitVec.xor_comm a b,BitVec.xor_assoc]
theorem xss(a b:BitVec 32):a ^^^ (a ^^^ b)=b:=by rw[<-BitVec.xor_assoc,BitVec.xor_self,BitVec.zero_xor]
theorem qhw(a b:BitVec 32):qd8 (a ^^^ b)=qd8 a ^^^ qd8 b:=by
 unfold qd8 qou;rw[BitVec.ushiftRight_xor_distrib,BitVec.getLsbD_xor];cases a.getLsbD 0<;>cases b.getLsbD 0<;>simp[BitVec.xor_assoc,BitVec.xor_comm,xlc,xss]
theorem qzj(r d:BitVec 32):qd8 (r ^^^ d)=qou r (d.getLsbD 0) ^^^ (d >>> 1):=by
 unfold qd8 qou;rw[BitVec.ushiftRight_xor_distrib,BitVec.getLsbD_xor,Bool.xor_false,BitVec.xor_assoc,BitVec.xor_assoc,BitVec.xor_comm (d >>> 1)]
theorem qf7{h:BitVec 32}(U:h.getLsbD 0=false):qd8 h=h >>> 1:=by
 unfold qd8 qou;rw[U];simp
theorem qu1(h:BitVec 32)(U:h.getLsbD 0=false)(V:h.getLsbD 1=false)(Z:h.getLsbD 2=false)(h3:h.getLsbD 3=false):qd8 (qd8 (qd8 (qd8 h)))=h >>> 4:=by
 rw[qf7 U,qf7 (h:=h >>> 1) (by simpa using V),qf7 (h:=h >>> 1 >>> 1) (by simpa using Z),qf7 (h:=h >>> 1 >>> 1 >>> 1) (by simpa using h3)];rw[<-BitVec.shiftRight_add,<-BitVec.shiftRight_add,<-BitVec.shiftRight_add]
theorem qz6:∀i,i<16->qd8 (qd8 (qd8 (qd8 (BitVec.ofNat 32 i))))=nib i:=by decide
theorem qabh(r:BitVec 32):qd8 (qd8 (qd8 (qd8 r)))=half r:=by
 have V:r &&&15#32=BitVec.ofNat 32 (r.toNat%16):=by
  apply BitVec.eq_of_toNat_eq;rw[BitVec.toNat_and,BitVec.toNat_ofNat];have:r.toNat &&&15=r.toNat%2 ^ 4:=Di r.toNat 4;show r.toNat &&&15=_;rw[this];have:=r.isLt;exact(BM Oo).symm
 have U:r=(r &&&15#32) ^^^ (r &&&0xfffffff0#32):=by
  ext i hi
  simp only[BitVec.getElem_xor,BitVec.getElem_and];have:((15#32)[i] ^^ (0xfffffff0#32)[i])=true:=by
   have:∀i (hi:i<32),((15#32)[i] ^^ (0xfffffff0#32)[i])=true:=by decide
   exact this i hi
  cases r[i]<;>simp_all
 have hh:(r &&&0xfffffff0#32) >>> 4=r >>> 4:=by
  ext i hi
  simp only[BitVec.getElem_ushiftRight,BitVec.getLsbD_and]
  by_cases h:4+i<32
  ·have:∀j,j<28->(0xfffffff0#32).getLsbD (4+j)=true:=by decide
   rw[this i Oo,CA]
  ·rw[BitVec.getLsbD_of_ge _ _ Oo];simp
 have Z:∀j,j<4->(r &&&0xfffffff0#32).getLsbD j=false:=λj hj=>by
  rw[BitVec.getLsbD_and];have:∀j,j<4->(0xfffffff0#32).getLsbD j=false:=by decide
  rw[this j hj,Cw]
 conv=>lhs;rw[U]
 rw[qhw,qhw,qhw,qhw,qu1 _ (Z 0 Od) (Z 1 Od) (Z 2 Od) (Z 3 Od),hh,V,qz6 _ (Cs _ Od)];rfl
def q0s(r:BitVec 32)(b:DE):Nat->BitVec 32
 | 0=>r
 | k+1=>qou (q0s r b k) (b.toNat.testBit k)
def thr(r:BitVec 32)(b:DE):BitVec 32:=half (half (r ^^^ BitVec.ofNat 32 b.toNat))
theorem qaei(r:BitVec 32)(b:DE)(k:Nat):(Nat.repeat qd8 k (r ^^^ BitVec.ofNat 32 b.toNat))=q0s r b k ^^^ (BitVec.ofNat 32 b.toNat >>> k):=by
 induction k with
 | zero=>simp[Nat.repeat,q0s]
 | succ k U=>
  rw[Nat.repeat,U,qzj,q0s]
  congr 1
  ·congr 1
   rw[BitVec.getLsbD_ushiftRight,BitVec.getLsbD_ofNat,Bt]
   by_cases h:k<32
   ·simp[h]
   ·have V:b.toNat<256:=b.toBitVec.isLt;have:=Nat.testBit_lt_two_pow (Bu V (AE (by decide:(256:Nat)<=2 ^ 32) (Bg Od (by omega:32<=k))));simp[h,this]
theorem q5q(r:BitVec 32)(b:DE):q0s r b 8=thr r b:=by
 have h:=qaei r b 8;have U:BitVec.ofNat 32 b.toNat >>> 8=0#32:=by
  apply BitVec.eq_of_toNat_eq;have V:b.toNat<256:=b.toBitVec.isLt;rw[BitVec.toNat_ushiftRight,BitVec.toNat_ofNat,CP,BM Oo];show b.toNat/256=0;omega
 rw[U,BitVec.xor_zero]at h;rw[<-h,thr,<-qabh,<-qabh];rfl
def updL(r:BitVec 32)(l:LB):BitVec 32:=l.foldl thr r
def crcL(l:LB):BitVec 32 := ~~~ (updL (~~~ 0#32) l)
theorem qtx(r:BitVec 32)(l:LB)(i:Nat)(h:i<l.length):updL r (l.take (i+1))=thr (updL r (l.take i)) l[i]:=by
 unfold updL;rw[AP h,List.foldl_append];rfl
def qlu:DK:=nibs.map λn:Nat=>Value.int .u32 (n:Int)
theorem bx(x y:BitVec 32):qgu .xor .u32 (x.toNat:Int) (y.toNat:Int)=((x ^^^ y).toNat:Int):=by
 have U:BitVec.ofInt 32 (x.toNat:Int)=x:=by apply BitVec.eq_of_toNat_eq;rw[BitVec.toNat_ofInt];have:=x.isLt;omega
 have V:BitVec.ofInt 32 (y.toNat:Int)=y:=by apply BitVec.eq_of_toNat_eq;rw[BitVec.toNat_ofInt];have:=y.isLt;omega
 show IntKind.u32.wrap ((BitVec.ofInt 32 (x.toNat:Int) ^^^ BitVec.ofInt 32 (y.toNat:Int)).toNat:Int)=_;rw[U,V];have:=(x ^^^ y).isLt;exact InR.wrap (k:=.u32) ⟨by omega,by omega⟩
theorem bnot(x:BitVec 32):qgu .xor .u32 (if IntKind.u32.signed then -1 else IntKind.u32.max) (x.toNat:Int)=((~~~x).toNat:Int):=by
 have h:(if IntKind.u32.signed then -1 else IntKind.u32.max)=((BitVec.allOnes 32).toNat:Int):=by decide
 rw[h,bx,BitVec.allOnes_xor]
theorem qad0(b:DE):(BitVec.ofNat 32 b.toNat).toNat=b.toNat:=by
 have:=q9 b;rw[BitVec.toNat_ofNat,BM Oo]
theorem qadu(i:Nat)(hi:i<16):(nib i).toNat=nibs.getD i 0:=by
 have:∀i,i<16->(nib i).toNat=nibs.getD i 0:=by decide
 exact this i hi
theorem qxt(x:BitVec 32):qgu .xor .u32 ((nibs.getD (x.toNat%16) 0:Nat):Int) ((x.toNat/16:Nat):Int)=((half x).toNat:Int):=by
 have U:(x >>> 4).toNat=x.toNat/16:=by rw[BitVec.toNat_ushiftRight,CP]
 rw[<-qadu _ (Cs _ Od),<-U,bx];rfl
theorem qya(U:CellsAt w 3 0 qlu)(i:Nat)(hi:i<16):w.cell? ⟨3,0+i*1,none⟩=some (.int .u32 ((nibs.getD i 0:Nat):Int)):=by
 have h:i<nibs.length:=hi;have:=U i (.int .u32 ((nibs.getD i 0:Nat):Int)) (by rw[qlu,Ao,zge h,Ag,zge h];rfl)
 rwa[Bx]
theorem qtw(x:BitVec 32):x.toNat<4294967296:=x.isLt
theorem qv5(r:BitVec 32)(b:DE)(w:DA)(U:CellsAt w 3 0 qlu):
  Gv DM 270 [.int .u32 r.toNat,.int .u8 b.toNat] w λv w'=>v=.int .u32 (thr r b).toNat/\w'=w:=by
 have hb:=q9 b;obtain⟨x,V⟩:∃x,x=r ^^^ BitVec.ofNat 32 b.toNat:=⟨_,rfl⟩
 have h0:=qtw x;have h1:=qtw (half x);have Z:thr r b=half (half x):=by rw[V];rfl
 rw[Z];refine ze Tryz.func270 Tryz.ntmps270 ?_;refine zv ?_;refine Wit.eq (y:=(x.toNat:Int)) (by rw[V,<-bx,qad0]) ?_;refine Wit.eq (qa1 (k:=.u32) (m:=x.toNat) 4 rfl ⟨by omega,by omega⟩ ⟨by omega,by omega⟩) ?_;refine IdxV.nat (Cs _ Od) ?_;refine LoadV.of (qya U _ (Cs _ Od)) ?_;refine Wit.shr (m:=16) (r:=((x.toNat/16:Nat):Int)) ⟨by decide,by decide⟩ Od Oo ?_;refine Wit.eq (qxt x) ?_;refine Wit.eq (qa1 (k:=.u32) (m:=(half x).toNat) 4 rfl ⟨by omega,by omega⟩ ⟨by omega,by omega⟩) ?_;refine IdxV.nat (Cs _ Od) ?_;refine LoadV.of (qya U _ (Cs _ Od)) ?_;refine Wit.shr (m:=16) (r:=(((half x).toNat/16:Nat):Int)) ⟨by decide,by decide⟩ Od Oo ?_;refine Wit.eq (qxt (half x)) (zw ?_);exact⟨rfl,rfl⟩
theorem q1n(l:LB)(A:oA)(n c:Nat)(w:DA)(V:SlAt encB 1 w A l)(Z:l.length=n)(hl:l.length<=140737488355328)(hT:CellsAt w 3 0 qlu):
  Gv DM 198 [.int .u32 0,.slice A n c] w λv w'=>v=.int .u32 (crcL l).toNat/\w'=w:=by
 subst Z;refine ze Tryz.func198 Tryz.ntmps198 ?_;refine Wit.eq (bnot 0#32) ?_;refine qq (λi:Nat=>[(10,.slice A l.length c),(11,ii l.length),(12,ii i),(5,.int .u32 (updL (~~~ 0#32) (l.take i)).toNat)]) (λi U=>i<=l.length/\U=w) (λi=>l.length-i) 0 fq ⟨by omega,rfl⟩ ?_;rintro i U aa ⟨h1,rfl⟩;(conv=>whnf);refine zC (λ_=>zw ?_) (λ_=>zw ?_)
 ·have hi:i<l.length:=by omega
  refine ElemV.bs V rfl i rfl hi ?_;intro eb eo hc;refine LoadV.of hc (zw ?_);refine zcv (qv5 _ l[i] U hT) ?_;rintro v U ⟨rfl,rfl⟩;refine zu ?_;exact⟨i+1,⟨rfl,rfl,rfl,by rw[qtx _ _ _ hi];rfl,trivial⟩,⟨by omega,rfl⟩,by omega⟩
 ·refine Wit.eq (bnot _) ?_;rw[Aj Oo];exact⟨rfl,rfl⟩
theorem qae3(l:LB)(A:oA)(n c:Nat)(w:DA)(U:SlAt encB 1 w A l)(V:l.length=n)(Z:l.length<=140737488355328)(hT:CellsAt w 3 0 qlu):
  Gv DM 119 [.slice A n c] w λv w'=>v=.int .u32 (crcL l).toNat/\w'=w:=by
 refine ze Tryz.func119 Tryz.ntmps119 ?_;refine zcv (q1n l A n c w U V Z hT) ?_;rintro v w1 ⟨rfl,rfl⟩;(conv=>whnf);exact⟨rfl,rfl⟩
theorem qadi(r:BitVec 32):r.toNat%2=if r.getLsbD 0=true then 1 else 0:=by
 rw[BitVec.getLsbD,Nat.testBit_zero]
 rcases Nat.mod_two_eq_zero_or_one r.toNat with h|h<;>rw[h]<;>simp
theorem qag7(r:BitVec 32)(d:Bool):qgu .xor .u32 ((r.toNat%2:Nat):Int) ((bif d then 1 else 0:Nat):Int)=((bif (r.getLsbD 0 ^^ d)then 1 else 0:Nat):Int):=by
 rw[qadi];cases r.getLsbD 0<;>cases d<;>decide
theorem qvk(r:BitVec 32)(d:Bool)(w:DA):Gv DM 312 [.int .u32 r.toNat,.int .u8 (bif d then 1 else 0:Nat)] w λv w'=>v=.int .u32 (qou r d).toNat/\w'=w:=by
 have Z:=qtw r;have hd:(bif d then 1 else 0:Nat)<=1:=by cases d<;>decide
 have U:(r >>> 1).toNat=r.toNat/2:=by rw[BitVec.toNat_ushiftRight,CP]
 refine ze Tryz.func312 Tryz.ntmps312 ?_;refine Wit.eq (qa1 (k:=.u32) (m:=r.toNat) 1 rfl ⟨by omega,by omega⟩ ⟨by omega,by omega⟩) (zu ?_);refine Wit.eq (qag7 r d) ?_;refine Wit.shr (m:=2) (r:=((r.toNat/2:Nat):Int)) ⟨by decide,by decide⟩ Od Oo (zw ?_);cases V:(r.getLsbD 0 ^^ d)
 ·refine Tst.no Od (zw ?_);refine⟨?_,rfl⟩;rw[qou,V,Aa Js,BitVec.xor_zero,U]
 ·refine Tst.yes Od ?_;refine Wit.eq (y:=(((r >>> 1) ^^^ poly).toNat:Int)) (by rw[<-bx,U];rfl) (zw ?_);refine⟨?_,rfl⟩;rw[qou,V,Ab rfl]
theorem qqe(l:LB)(A:oA)(n c:Nat)(w:DA)(hS:SlAt encB 1 w A l)(hn:l.length=n)(hl:l.length<=140737488355328):
  Gv DM 230 [.int .u32 0,.slice A n c] w λv w'=>v=.int .u32 (crcL l).toNat/\w'=w:=by
 subst hn;refine ze Tryz.func230 Tryz.ntmps230 ?_;refine Wit.eq (bnot 0#32) ?_;refine qq (λi:Nat=>[(1,.slice A l.length c),(6,ii i),(5,.int .u32 (updL (~~~ 0#32) (l.take i)).toNat)]) (λi Z=>i<=l.length/\Z=w) (λi=>l.length-i) 0 fq ⟨by omega,rfl⟩ ?_;rintro i Z aa ⟨h1,rfl⟩;(conv=>whnf);refine zC (λ_=>zw ?_) (λ_=>zw ?_)
 ·have hi:i<l.length:=by omega
  have hb:=q9 l[i];refine qq (λk:Nat=>[(1,.slice A l.length c),(6,ii i),(7,ii k),(5,.int .u32 (q0s (updL (~~~ 0#32) (l.take i)) l[i] k).toNat)]) (λk V=>k<=8/\V=Z) (λk=>8-k) 0 fq ⟨by omega,rfl⟩ ?_;rintro k V aa ⟨k1,rfl⟩;(conv=>whnf);refine zC (λ_=>zu ?_) (λ_=>zu ?_)
  ·refine ElemV.bs hS rfl i rfl hi ?_;intro eb eo hc;refine LoadV.of hc ?_;have hk:2 ^ k<=128:=AE (Bg Od (show k<=7 by omega)) Od;obtain⟨q,hq⟩:∃q,q=l[i].toNat/2 ^ k:=⟨_,rfl⟩
   have ad:q<=l[i].toNat:=by rw[hq];exact Cm ..
   refine Wit.shr (m:=((2 ^ k:Nat):Int)) (r:=(q:Int)) ⟨by omega,by show(k:Int)<8;omega⟩ (by rw[CY];push_cast;rfl) (by rw[hq,Int.natCast_ediv]) ?_;refine Wit.eq (qa1 (k:=.u8) (m:=q) 1 rfl ⟨by omega,by omega⟩ ⟨by omega,by omega⟩) ?_;have U:q%2 ^ 1=bif l[i].toNat.testBit k then 1 else 0:=by
    rw[Nat.testBit_eq_decide_div_mod_eq,<-hq,Nat.pow_one]
    rcases Nat.mod_two_eq_zero_or_one q with h|h<;>rw[h]<;>decide
   rw[U];refine zcv (qvk _ (l[i].toNat.testBit k) V) ?_;rintro v V ⟨rfl,rfl⟩;refine zu ?_;exact⟨k+1,fq,⟨by omega,rfl⟩,by omega⟩
  ·have hk:k=8:=by omega
   subst hk;exact⟨i+1,⟨rfl,rfl,by rw[qtx _ _ _ hi,<-q5q];rfl,trivial⟩,⟨by omega,rfl⟩,by omega⟩
 ·refine Wit.eq (bnot _) ?_;rw[Aj Oo];exact⟨rfl,rfl⟩
theorem q01(l:LB)(A:oA)(n c:Nat)(w:DA)(U:SlAt encB 1 w A l)(V:l.length=n)(Z:l.length<=140737488355328):
  Gv DM 157 [.slice A n c] w λv w'=>v=.int .u32 (crcL l).toNat/\w'=w:=by
 refine ze Tryz.func157 Tryz.ntmps157 ?_;refine zcv (qqe l A n c w U V Z) ?_;rintro v w1 ⟨rfl,rfl⟩;(conv=>whnf);exact⟨rfl,rfl⟩
namespace V
theorem StoreA.same{t:DD}{K:DI}(V:w.heap[b]?=some (.cells cur t))(Z:vs=cur.toList)(h1:∀v∈vs,v.oneCell'=true)(hk:∀w',Ext w w'->K w'):StoreA P w b 0 vs K:=by
 subst Z;have U:=run_storeCells_at P b 0 t cur.toList 0 cur w V Js h1;have ec:(cur.toList.take (0+0)++cur.toList++cur.toList.drop (0+0+cur.toList.length)).toArray=cur:=by
  grind
 rw[ec]at U;refine⟨_,U,hk _ ⟨rfl,rfl,rfl,by simp,λk _=>?_⟩⟩
 grind [qb8,qu]
theorem BS.rest(U:SlAt encB 1 w (some ⟨g,off,none⟩) l)(V:l.length<=c)(Z:a<l.length):BS w (.slice (some ⟨g,off+a,none⟩) (l.length-a) (c-a)) (l.drop a):=by
 refine⟨_,c-a,by rw[zld],by grind,?_⟩;have:=U.cut (A':=some ⟨g,off+a,none⟩) (lo:=a) (hi:=l.length) (m:=c) Oo Oo V (by grind [qaq])
 grind [List.take_of_length_le]
theorem SliceV.rest{n:Nat}{lo:Option DF}{K:DF->Prop}(a:Nat)(U:bnd lo 0 a)(V:n<=c)(Z:a<n)(hk:K (.slice (some ⟨g,off+a,none⟩) (n-a) (c-a))):SliceV 1 (some ⟨g,off,none⟩) n c lo none none K:=by
 refine⟨a,n,c,U,rfl,rfl,by omega,V,Ai _,Js,λA' e=>?_⟩
 grind [qaq]
structure CurAt(wd w:DA)(v:DF)(o:Obj):Prop where
 h:∃b,v=pp b/\wd.heap.size<=b/\w.heap[b]?=some o
structure Two(wd:DA)(o1 o2:Obj)(F:DI)(s2 s5 s6 s12 s13 s17:Bool)(v5 v12:DF)(w:DA):Prop where
 a:s17=false->Ext wd w/\(s5=true->s6=false->CurAt wd w v5 o1)/\(s12=true->s13=false->CurAt wd w v12 o2)
 d:s6=true->s5=true
 e:s12=true->s6=true
 f:s17=true->F w/\s2=true/\s5=true/\s6=true/\s12=true/\s13=true
section
variable {wd w w':DA} {o1 o2:Obj} {F:DI} {s2 s5 s6 s12 s13 s17:Bool} {v5 v12 v:DF}
theorem Two.start:Two wd o1 o2 F false false false false false false v5 v12 wd:=⟨(by grind [Ext.refl]),Js,Js,Js⟩
theorem Two.read1(h:Two wd o1 o2 F s2 false s6 s12 s13 s17 v5 v12 w)(Z:Ext w w')(hv:∃b,v=pp b/\w.heap.size<=b/\w'.heap[b]?=some o1):Two wd o1 o2 F s2 true s6 s12 s13 s17 v v12 w':=by
 have h6:s6=false:=by
  cases U:s6
  ·rfl
  ·have:=h.d U;cases this
 have V:s17=false:=by
  cases U:s17
  ·rfl
  ·have:=(h.f U).2.2.1;cases this
 obtain⟨a1,a2,a3⟩:=h.a V;obtain⟨b,rfl,hb,hc⟩:=hv;have aa:s12=false:=by
  cases U:s12
  ·rfl
  ·have:=h.e U;simp_all
 exact⟨λ_=>⟨a1.trans Z,λ_ _=>⟨b,rfl,AE a1.size hb,hc⟩,(by grind)⟩,λ_=>rfl,h.e,(by grind)⟩
theorem Two.cur1(h:Two wd o1 o2 F s2 s5 false s12 s13 s17 v5 v12 w)(Z:s5=true):Ext wd w/\CurAt wd w v5 o1:=by
 have U:s17=false:=by
  cases V:s17
  ·rfl
  ·have:=(h.f V).2.2.2.1;cases this
 obtain⟨a1,a2,a3⟩:=h.a U
 simp_all
theorem Two.fix1{Z U:DF}(h:Two wd o1 o2 F s2 s5 false s12 s13 s17 v5 v12 w)(h5:s5=true)(he:Ext wd w'):Two wd o1 o2 F s2 s5 true s12 s13 s17 Z U w':=by
 have aa:s17=false:=by
  cases V:s17
  ·rfl
  ·have:=(h.f V).2.2.2.1;cases this
 have ad:s12=false:=by
  cases V:s12
  ·rfl
  ·have:=h.e V;cases this
 exact⟨(by grind),λ_=>h5,λ_=>rfl,(by grind)⟩
theorem Two.ext2(h:Two wd o1 o2 F s2 s5 s6 false s13 s17 v5 v12 w):Ext wd w:=by
 have U:s17=false:=by
  cases V:s17
  ·rfl
  ·have:=(h.f V).2.2.2.2.1;cases this
 exact(h.a U).1
theorem Two.ext1(h:Two wd o1 o2 F s2 false s6 s12 s13 s17 v5 v12 w):Ext wd w:=by
 have U:s17=false:=by
  cases V:s17
  ·rfl
  ·have:=(h.f V).2.2.1;cases this
 exact(h.a U).1
theorem Two.ext0(h:Two wd o1 o2 F false s5 s6 s12 s13 s17 v5 v12 w):Ext wd w:=by
 have U:s17=false:=by
  cases V:s17
  ·rfl
  ·have:=(h.f V).2.1;cases this
 exact(h.a U).1
theorem Two.load(h:Two wd o1 o2 F false s5 s6 s12 s13 s17 v5 v12 w):Two wd o1 o2 F true s5 s6 s12 s13 s17 v5 v12 w:=by
 have U:s17=false:=by
  cases V:s17
  ·rfl
  ·have:=(h.f V).2.1;cases this
 exact⟨h.a,h.d,h.e,(by grind)⟩
theorem Two.read2(h:Two wd o1 o2 F s2 s5 s6 false s13 s17 v5 v12 w)(V:s6=true)(Z:Ext w w')(hv:∃b,v=pp b/\w.heap.size<=b/\w'.heap[b]?=some o2):Two wd o1 o2 F s2 s5 s6 true s13 s17 v5 v w':=by
 have U:s17=false:=by
  cases h':s17
  ·rfl
  ·have:=(h.f h').2.2.2.2.1;cases this
 obtain⟨a1,a2,a3⟩:=h.a U;obtain⟨b,rfl,hb,hc⟩:=hv;exact⟨λ_=>⟨a1.trans Z,(by grind),λ_ _=>⟨b,rfl,AE a1.size hb,hc⟩⟩,h.d,λ_=>V,(by grind)⟩
theorem Two.cur2(h:Two wd o1 o2 F s2 s5 s6 s12 false s17 v5 v12 w)(V:s12=true):Ext wd w/\CurAt wd w v12 o2:=by
 have U:s17=false:=by
  cases Z:s17
  ·rfl
  ·have:=(h.f Z).2.2.2.2.2;cases this
 obtain⟨a1,a2,a3⟩:=h.a U
 simp_all
theorem Two.fix2(h:Two wd o1 o2 F s2 s5 s6 s12 false s17 v5 v12 w)(U:s12=true)(he:Ext wd w'){u5 V:DF}:Two wd o1 o2 F s2 s5 s6 s12 true s17 u5 V w':=by
 have aa:s17=false:=by
  cases h':s17
  ·rfl
  ·have:=(h.f h').2.2.2.2.2;cases this
 exact⟨λ_=>⟨he,λ_ Z=>(by rw[h.e U]at Z;cases Z),Js⟩,h.d,h.e,(by grind)⟩
end
end V
def hN(l:LB)(k:Nat):Nat:=leN ((l.drop (4*k)).take 4)
def qt(l:LB):Nat×Nat:=
 if l.length<28 then(l.length,10)else if hN l 0≠1095914324 then(0,190)else if hN l 6≠(crcL (l.take 24)).toNat then(24,30)else if hN l 1≠1 then(4,191)
 else if 67108864<hN l 4+hN l 5+36 then(0,2)else if l.length<hN l 4+hN l 5+36 then(l.length,10)else if hN l 4+hN l 5+36<l.length then(hN l 4+hN l 5+36,13)else(0,0)
def zF:DK:=[ii 0,ii 0,ii 0,ii 0,.slice none 0 0,.slice none 0 0,ii 0,ii 0,.int .u32 0,.int .u32 0]
def okF(l:LB)(A B:oA):DK:=[ii (hN l 2),ii (hN l 3),ii (hN l 4),ii (hN l 5),.slice A (hN l 4) (hN l 4),.slice B (hN l 5) (hN l 5),ii 28,ii (32+hN l 4:Nat),
 .int .u32 (leN ((l.drop (28+hN l 4)).take 4)),.int .u32 (leN ((l.drop (32+hN l 4+hN l 5)).take 4))]
def FrR(l:LB)(v:DF)(w:DA):Prop:=
 ((qt l).2≠0/\∃ev,v=.tuple #[.agg zF.toArray,ev]/\ErrAt w ev (qt l).1 (qt l).2)\/
 ((qt l).2=0/\∃A B,v=.tuple #[.agg (okF l A B).toArray,.nilIface]/\SlAt encB 1 w A ((l.drop 28).take (hN l 4))/\SlAt encB 1 w B ((l.drop (32+hN l 4)).take (hN l 5)))
theorem q8v(l:LB)(k:Nat):hN l k<4294967296:=by
 have:=qxy ((l.drop (4*k)).take 4);have U:((l.drop (4*k)).take 4).length<=4:=by simp;omega
 have V:256 ^ ((l.drop (4*k)).take 4).length<=256 ^ 4:=Bg Od U
 grind [hN]
def nsL(l:LB)(i:Nat):DK:=(List.range 7).map λk=>Value.int .u64 ((if k<i then hN l k else 0:Nat):Int)
theorem qady(l:LB)(i:Nat)(hi:i<7):(nsL l i).toArray.setIfInBounds i (.int .u64 (hN l i))=(nsL l (i+1)).toArray:=by
 rw[<-Bh];simp only[BU];apply Bj
 grind [nsL]
theorem qzu(l:LB)(A:oA)(c:Nat)(w:DA)(hS:SlAt encB 1 w A l)(hc:l.length<=c)(hl:l.length<=140737488355328)(hT:CellsAt w 3 0 qlu):
  Gv DM 93 [.slice A l.length c] w λv w'=>FrR l v w'/\Ext w w':=by
 refine ze Tryz.func93 Tryz.ntmps93 ?_;refine znm (Mem.nil w) ?_;intro r w1 U;have U:Mem w w1 [(r,.cells zF.toArray 182)]:=U;(conv=>whnf);refine zC (λ_=>zw ?_) (λ_=>zw ?_);have hR:qt l=(l.length,10):=by grind [qt]
 rotate_left
 have bf:28<=l.length:=by omega
 have aa:∀k,hN l k<4294967296:=λk=>q8v l k
 refine znm U λnb w2 U=>zw ?_;have hv:BS w2 (.slice A l.length c) l:=⟨A,c,rfl,hc,hS.ext U.ext⟩
 refine zcv (qex _ l w2 hv) ?_;rintro v w3 ⟨cb,rfl,ax,ay,az⟩;have U:=U.fresh az ax ay;(conv=>whnf);refine qq (λi:Nat=>[(0,.slice A l.length c),(2,pp r),(3,.nilIface),(4,pp nb),(5,pp cb),(17,ii i)])
  (λi w4=>i<=7/\Mem w w4 [(cb,curO 367 (.slice A l.length c) (4*i) 0),(nb,.cells (nsL l i).toArray 278),(r,.cells zF.toArray 182)]) (λi=>7-i) 0 fq ⟨by omega,U⟩ ?_
 clear U;rintro i w4 bg ⟨i1,U⟩;(conv=>whnf);refine zC (λ_=>zw ?_) (λ_=>zw ?_)
 ·have hv:BS w4 (.slice A l.length c) l:=⟨A,c,rfl,hc,hS.ext U.ext⟩
  refine zcv (qiw cb _ (4*i) l w4 (U.get mh) hv Oo hl) ?_;rintro v w5 ⟨rfl,hu⟩;have U:Mem w w5 [(cb,curO 367 (.slice A l.length c) (4*(i+1)) 0),(nb,.cells (nsL l i).toArray 278),(r,.cells zF.toArray 182)]:=U.upd (i:=0) rfl hu;(conv=>whnf);refine IdxV.nat Oo (zw ?_);refine StoreV.mem U (i:=1) rfl (by rw[show tsz DM 164=1 from by kernel_rfl];simp[nsL];omega) rfl λw6 U=>zu ?_;refine⟨i+1,fq,⟨by omega,?_⟩,by omega⟩;have e:=qady l i Oo;rw[<-e];have e2:0+i*tsz DM 164=i:=by rw[show tsz DM 164=1 from by kernel_rfl];omega
  rw[e2]at U;exact U
 have a4:i=7:=by omega
 subst a4;have U:Mem w w4 [(cb,curO 367 (.slice A l.length c) 28 0),(nb,.cells #[.int .u64 (hN l 0),.int .u64 (hN l 1),.int .u64 (hN l 2),.int .u64 (hN l 3),.int .u64 (hN l 4),.int .u64 (hN l 5),.int .u64 (hN l 6)] 278),(r,.cells zF.toArray 182)]:=U;have g0:=aa 0;have g1:=aa 1;have g2:=aa 2;have g3:=aa 3;have g4:=aa 4;have g5:=aa 5;have g6:=aa 6;refine IdxV.at_ 4 rfl Od (zw ?_);refine zr U 1 ?_;refine IdxV.at_ 5 rfl Od (zw ?_);refine zr U 1 ?_;refine zv ?_;have a5:(hN l 4:Int)+(hN l 5:Int)+28+8=((hN l 4+hN l 5+36:Nat):Int):=by omega
 rw[a5];refine IdxV.at_ 0 rfl Od (zw ?_);refine zr U 1 ?_;refine zC (λ_=>zw ?_) (λ_=>zw ?_);have U:Mem w _ [(r,.cells zF.toArray 182)]:=U.sub ((Ak ..).trans (Ak ..));have hR:qt l=(0,190):=by grind [qt]
 rotate_left
 have U:=U.drew;refine zy ?_;refine IdxV.at_ 6 rfl Od (zw ?_);refine zt ?_;refine LoadV.mem (i:=1) Oa rfl rfl (zw ?_);refine zt ?_;refine SliceV.bs (hS.ext U.ext) rfl 0 24 c rfl rfl rfl Oo Oo Oo znr (λ_=>rfl) ?_;intro A1 ah;rw[Bn]at ah;refine zu ?_;refine⟨.int .u32 (crcL (l.take 24)).toNat,qae3 (l.take 24) A1 _ _ _ ah Ys Ys (hT.ext U.ext),?_⟩;(conv=>whnf);refine zt ?_;refine zC (λ_=>zw ?_) (λ_=>zw ?_);have U:Mem w _ [(r,.cells zF.toArray 182)]:=U.sub ((Ak ..).trans (Ak ..));have hR:qt l=(24,30):=by grind [qt]
 rotate_left
 refine IdxV.at_ 1 rfl Od (zw ?_);refine zr U 1 ?_
 (repeat' refine zC (λ_=>zw ?_) (λ_=>zw ?_))
 have U:Mem w _ [(r,.cells zF.toArray 182)]:=U.sub ((Ak ..).trans (Ak ..));have hR:qt l=(4,191):=by grind [qt]
 rotate_left
 have U:Mem w _ [(r,.cells zF.toArray 182)]:=U.sub ((Ak ..).trans (Ak ..));have hR:qt l=(0,2):=by grind [qt]
 rotate_left
 have U:Mem w _ [(r,.cells zF.toArray 182)]:=U.sub ((Ak ..).trans (Ak ..));have hR:qt l=(l.length,10):=by grind [qt]
 rotate_left
 have U:Mem w _ [(r,.cells zF.toArray 182)]:=U.sub ((Ak ..).trans (Ak ..));have hR:qt l=(hN l 4+hN l 5+36,13):=by grind [qt]
 rotate_left
 have hR:qt l=(0,0):=by grind [qt]
 refine IdxV.at_ 2 rfl Od (zw ?_);refine zr U 1 ?_;refine zv ?_;refine IdxV.at_ 3 rfl Od (zw ?_);refine zr U 1 ?_;refine zv ?_;refine IdxV.at_ 4 rfl Od (zw ?_);refine zr U 1 ?_;refine zv ?_;refine IdxV.at_ 5 rfl Od (zw ?_);refine zr U 1 ?_;refine zv ?_;refine StoreA.mem U (i:=2) rfl (show 0+4<=10 by decide) (by intro v hv;simp at hv;rcases hv with rfl|rfl|rfl|rfl<;>rfl) ?_;intro w5 U;have U:Mem w w5 [_,_,(r,.cells #[ii (hN l 2),ii (hN l 3),ii (hN l 4),ii (hN l 5),.slice none 0 0,.slice none 0 0,ii 0,ii 0,.int .u32 0,.int .u32 0] 182)]:=U;(conv=>whnf);refine StoreV.mem U (i:=2) rfl (show 6<10 by decide) rfl ?_;intro w6 U;have U:Mem w w6 [_,_,(r,.cells #[ii (hN l 2),ii (hN l 3),ii (hN l 4),ii (hN l 5),.slice none 0 0,.slice none 0 0,ii 28,ii 0,.int .u32 0,.int .u32 0] 182)]:=U;(conv=>whnf);refine IdxV.at_ 4 rfl Od (zw ?_);refine zr U 1 ?_;refine zv ?_;refine StoreV.mem U (i:=2) rfl (show 7<10 by decide) rfl ?_;intro w7 U;have U:Mem w w7 [_,_,(r,.cells #[ii (hN l 2),ii (hN l 3),ii (hN l 4),ii (hN l 5),.slice none 0 0,.slice none 0 0,ii 28,ii (28+(hN l 4:Int)+4),.int .u32 0,.int .u32 0] 182)]:=U;have a7:28+(hN l 4:Int)+4=((32+hN l 4:Nat):Int):=by omega
 rw[a7]at U;(conv=>whnf);refine zr U 2 ?_;refine zr U 2 ?_;refine zt ?_;refine LoadV.mem (i:=2) Oa rfl rfl (zw ?_);refine zt ?_;refine SliceV.bs hS rfl 28 (28+hN l 4) (28+hN l 4) rfl (by show((32+hN l 4:Nat):Int)-4=((28+hN l 4:Nat):Int);omega) (by show((32+hN l 4:Nat):Int)-4=((28+hN l 4:Nat):Int);omega) Oo Oo znr Oo (λ_=>rfl) ?_;intro A1 ah;have a8:28+hN l 4-28=hN l 4:=by omega
 rw[a8]at ah|-;(conv=>whnf);refine StoreV.mem U (i:=2) rfl (show 4<10 by decide) rfl ?_;intro w8 U;have U:Mem w w8 [_,_,(r,.cells #[ii (hN l 2),ii (hN l 3),ii (hN l 4),ii (hN l 5),.slice A1 (hN l 4) (hN l 4),.slice none 0 0,ii 28,ii ((32+hN l 4:Nat):Int),.int .u32 0,.int .u32 0] 182)]:=U;(conv=>whnf);refine zr U 2 ?_;refine zv ?_;refine SliceV.bs hS rfl (32+hN l 4) (32+hN l 4+hN l 5) (32+hN l 4+hN l 5) rfl (by show((hN l 4:Int)+(hN l 5:Int))+28+8-4=((32+hN l 4+hN l 5:Nat):Int);omega) (by show((hN l 4:Int)+(hN l 5:Int))+28+8-4=((32+hN l 4+hN l 5:Nat):Int);omega) Oo Oo znr Oo (λ_=>rfl) ?_;intro A2 an;have a9:32+hN l 4+hN l 5-(32+hN l 4)=hN l 5:=by omega
 rw[a9]at an|-;(conv=>whnf);refine StoreV.mem U (i:=2) rfl (show 5<10 by decide) rfl ?_;intro w9 U;have U:Mem w w9 [_,_,(r,.cells #[ii (hN l 2),ii (hN l 3),ii (hN l 4),ii (hN l 5),.slice A1 (hN l 4) (hN l 4),.slice A2 (hN l 5) (hN l 5),ii 28,ii ((32+hN l 4:Nat):Int),.int .u32 0,.int .u32 0] 182)]:=U;(conv=>whnf);obtain⟨g,off,hA,_⟩:=hS.at_ (by grind);subst hA;obtain⟨n1,ao⟩:∃n,n=leN ((l.drop (28+hN l 4)).take 4):=⟨_,rfl⟩
 obtain⟨n2,aq⟩:∃n,n=leN ((l.drop (32+hN l 4+hN l 5)).take 4):=⟨_,rfl⟩
 have b1:n1<4294967296:=by
  have:=qap (l.drop (28+hN l 4)) 4 (by grind);omega
 have b2:n2<4294967296:=by
  have:=qap (l.drop (32+hN l 4+hN l 5)) 4 (by grind);omega
 have ar:∀wx,Ext w wx->BS wx (.slice (some ⟨g,off+(28+hN l 4),none⟩) (l.length-(28+hN l 4)) (c-(28+hN l 4))) (l.drop (28+hN l 4)):=λwx he=>BS.rest (hS.ext he) hc Oo
 have au:∀wx,Ext w wx->BS wx (.slice (some ⟨g,off+(32+hN l 4+hN l 5),none⟩) (l.length-(32+hN l 4+hN l 5)) (c-(32+hN l 4+hN l 5))) (l.drop (32+hN l 4+hN l 5)):=λwx he=>BS.rest (hS.ext he) hc Oo
 obtain⟨F,hF⟩:∃F:DA->Prop,F=λw'=>Mem w w' [(cb,curO 367 (.slice (some ⟨g,off,none⟩) l.length c) 28 0),(nb,.cells (nsL l 7).toArray 278),(r,.cells #[ii (hN l 2),ii (hN l 3),ii (hN l 4),ii (hN l 5),.slice A1 (hN l 4) (hN l 4),.slice A2 (hN l 5) (hN l 5),ii 28,ii ((32+hN l 4:Nat):Int),.int .u32 n1,.int .u32 n2] 182)]:=⟨_,rfl⟩
 refine DrawV.gen (λS vals w'=>Two w9.drew (curO 367 (.slice (some ⟨g,off+(28+hN l 4),none⟩) (l.length-(28+hN l 4)) (c-(28+hN l 4))) 0 0) (curO 367 (.slice (some ⟨g,off+(32+hN l 4+hN l 5),none⟩) (l.length-(32+hN l 4+hN l 5)) (c-(32+hN l 4+hN l 5))) 0 0) F (S 2) (S 5) (S 6) (S 12) (S 13) (S 17) (vals 5) (vals 12) w') rfl Jk (λvals=>Two.start) (zw ?_);refine zg ?_;refine zg ?_
 ·refine StepG.of (ii ((32+hN l 4:Nat):Int)) (λS vals wd hk Z V=>?_) (zw ?_)
  ·dsimp only at V;rw[hk]at V;(conv=>whnf);refine LoadV.mem (U.drew.call V.ext0) (i:=2) rfl rfl (zw ?_);exact⟨rfl,V.load⟩
  refine zg ?_
  ·refine StepG.of (.slice (some ⟨g,off+(28+hN l 4),none⟩) (l.length-(28+hN l 4)) (c-(28+hN l 4))) (λS vals wd hk Z V=>zw ?_) (zw ?_)
   ·refine SliceV.rest (28+hN l 4) (by show((32+hN l 4:Nat):Int)-4=((28+hN l 4:Nat):Int);omega) hc Oo (zw ?_);exact⟨rfl,V⟩
   ·refine StepG.any (λS vals wd hk Z V=>?_) (zw ?_)
    ·dsimp only at V;rw[hk]at V;(conv=>whnf);refine zcv (qex _ _ wd (ar wd (U.drew.ext.trans V.ext1))) ?_;rintro v wx ⟨b,rfl,hb,ad,he⟩;(conv=>whnf);exact⟨trivial,Two.read1 V he ⟨b,rfl,hb,ad⟩⟩
    refine StepG.of (.int .u64 n1) (λS vals wd hk Z V=>?_) (zw ?_)
    ·dsimp only at V;have h5:S 5=true:=Z 5 Od;rw[hk]at V;obtain⟨ae,b,al,hb,ad⟩:=V.cur1 h5;rw[ql al];(conv=>whnf);refine zcv (qiw b _ 0 (l.drop (28+hN l 4)) wd ad (ar wd (U.drew.ext.trans ae)) (by grind) (by grind)) ?_;rintro v wx ⟨rfl,hu⟩;(conv=>whnf);exact⟨by rw[ao,Bn];rfl,V.fix1 h5 (hu.ext ae hb)⟩
    (iterate 4 (refine zg ?_))
    ·refine StepG.of (.slice (some ⟨g,off+(32+hN l 4+hN l 5),none⟩) (l.length-(32+hN l 4+hN l 5)) (c-(32+hN l 4+hN l 5))) (λS vals wd hk Z V=>zw ?_) (zw ?_)
     ·refine SliceV.rest (32+hN l 4+hN l 5) (by show((hN l 4+hN l 5+36:Nat):Int)-4=((32+hN l 4+hN l 5:Nat):Int);omega) hc Oo (zw ?_);exact⟨rfl,V⟩
     refine StepG.any (λS vals wd hk Z V=>?_) (zw ?_)
     ·dsimp only at V;have h6:S 6=true:=Z 6 Od;rw[hk]at V;(conv=>whnf);refine zcv (qex _ _ wd (au wd (U.drew.ext.trans V.ext2))) ?_;rintro v wx ⟨b,rfl,hb,ad,he⟩;(conv=>whnf);exact⟨trivial,Two.read2 V h6 he ⟨b,rfl,hb,ad⟩⟩
     refine StepG.of (.int .u64 n2) (λS vals wd hk Z V=>?_) (zw ?_)
     ·dsimp only at V;have aj:S 12=true:=Z 12 Od;rw[hk]at V;obtain⟨ae,b,al,hb,ad⟩:=V.cur2 aj;rw[ql al];(conv=>whnf);refine zcv (qiw b _ 0 (l.drop (32+hN l 4+hN l 5)) wd ad (au wd (U.drew.ext.trans ae)) (by rw[zld];omega) (by rw[zld];omega)) ?_;rintro v wx ⟨rfl,hu⟩;(conv=>whnf);exact⟨by rw[aq,Bn];rfl,V.fix2 aj (hu.ext ae hb)⟩
     (iterate 3 (refine zg ?_));refine StepG.of undef (λS vals wd hk Z V=>?_) (zw ?_)
     ·dsimp only at V;have h2:S 2=true:=Z 2 Od;have h5:S 5=true:=Z 5 Od;have h6:S 6=true:=Z 6 Od;have aj:S 12=true:=Z 12 Od;have ba:S 13=true:=Z 13 Od;rw[hk]at V;have ae:=(V.a rfl).1;(conv=>whnf);refine StoreA.mem (U.drew.call ae) (i:=2) rfl (show 8+2<=10 by decide) (by intro v hv;simp at hv;rcases hv with rfl|rfl<;>rfl) λwx bb=>zw ?_;refine⟨rfl,?_⟩;refine⟨λh=>(by cases h),V.d,V.e,λ_=>⟨by rw[hF];exact bb,h2,h5,h6,aj,ba⟩⟩
     intro vals bh V;have af:=(V.f rfl).1;rw[hF]at af;(conv=>whnf);refine zl af 2 ?_;refine StoreA.same (af.get (zmc (zmc mh))) rfl (by intro v hv;simp at hv;rcases hv with rfl|rfl|rfl|rfl|rfl|rfl|rfl|rfl|rfl|rfl<;>rfl) λbi av=>zw ?_;refine qd (R:=λv w'=>FrR l v w'/\Ext w w') (zw ?_);have ag:=af.call av;refine zl ag 2 ?_;refine⟨.inr ⟨by rw[hR],A1,A2,?_,?_,?_⟩,ag.ext⟩
     ·rw[okF,<-ao,<-aq];rfl
     ·exact ah.ext ag.ext
     ·exact an.ext ag.ext
 all_goals
  refine DrawV.free Jk Jk (zw ?_);refine zLd ?_
  (repeat refine zd ?_)
  apply StepD.of (λv w=>ErrAt w v (qt l).1 (qt l).2) (λ_ _ _ h he=>h.ext he)
  ·intro wd hd;(conv=>whnf);have Z:=qaee (qt l).1 (qt l).2 wd;rw[hR]at Z;refine zcv Z ?_;rintro v w9 ⟨h9,ai⟩;exact⟨ai,by rw[hR];exact h9⟩
  (conv=>whnf);apply zsd
  ·intro wd hd;(conv=>whnf);rintro ev bd;(conv=>whnf);refine StoreA.same ((Mem.call (Mem.drew U) hd).get mh) rfl Od ?_;intro w9 ai;exact⟨ai,rfl⟩
  (conv=>whnf);apply StepD.of (λv w=>ErrAt w v (qt l).1 (qt l).2) (λ_ _ _ h he=>h.ext he)
  ·intro wd hd;(conv=>whnf);rintro ev bd;(conv=>whnf);rintro be ak;(conv=>whnf);obtain⟨eb,rfl,am⟩:=ak;(conv=>whnf);exact⟨xr,eb,rfl,am⟩
  (conv=>whnf);intro w9 ai;(conv=>whnf);rintro ev ⟨eb,rfl,am⟩;(conv=>whnf);rintro be ak;(conv=>whnf);have aw:=(U.drew.call ai)
  refine qd (R:=λv w'=>FrR l v w'/\Ext w w') (zw ?_);refine zl aw 0 ?_;refine⟨.inl ⟨by rw[hR];simp,_,rfl,?_⟩,aw.ext⟩;exact⟨eb,rfl,am⟩
theorem qge:DM.underlying 32=some (.slice 5):=Tryz.underlying32
theorem bytI:DM.info? 5=some ((DM.info? 5).get Jk):=(Bd _).symm
theorem bytZ:((DM.info? 5).get Jk).zero=some (.int .u8 0):=by kernel_rfl
def fixL(n:Nat):Nat->LB
 | 0=>[]
 | k+1=>fixL n k++[UInt8.ofNat (n/2 ^ (8*k)%256)]
theorem qv(n k:Nat):(fixL n k).length=k:=by
 induction k with
 | zero=>rfl
 | succ k U=>simp[fixL,U]
theorem qfh(n k:Nat):leN (fixL n k)=n%256 ^ k:=by
 induction k with
 | zero=>simp[fixL,leN,Nat.mod_one]
 | succ k U=>
  rw[fixL,q4a,U,qv];have e:(2:Nat) ^ (8*k)=256 ^ k:=by rw[Nat.pow_mul]
  have V:(UInt8.ofNat (n/2 ^ (8*k)%256)).toNat=n/256 ^ k%256:=by
   rw[e];simp
  simp only[leN,V,Nat.mul_zero,Bt];rw[Nat.pow_succ,Nat.mod_mul]
theorem q4c:∀{l m:LB},l.length=m.length->leN l=leN m->l=m:=by
 intro l
 induction l with
 | nil=>intro m h _;exact(Bo h.symm).symm
 | cons x l U=>
  intro m h e;cases m with
  | nil=>simp at h
  | cons y m=>
   simp only[leN]at e;have hx:=q9 x;have hy:=q9 y;have V:x.toNat=y.toNat:=by omega
   have Z:leN l=leN m:=by omega
   rw[U (by simpa using h) Z,BG.1 V]
theorem qrx{n:Nat}{m:LB}(V:m.length=4)(U:n<4294967296):fixL n 4=m↔leN m=n:=by
 constructor
 ·rintro rfl;rw[qfh];exact BM U
 ·intro h;refine q4c (by rw[qv,V]) ?_;rw[qfh,h];exact BM U
namespace V
theorem SlAt.rest(U:SlAt encB 1 w (some ⟨g,off,none⟩) l)(V:a<l.length):SlAt encB 1 w (some ⟨g,off+a,none⟩) (l.drop a):=by
 have:=U.cut (A':=some ⟨g,off+a,none⟩) (lo:=a) (hi:=l.length) (m:=l.length) Oo znr znr (by rw[Aa Oo,Bx,Be,qaq])
 rwa[Aj Js]at this
theorem Rw.byts{n:Nat}{e:DD}{U:LB}(h:Rw w0 w (.slice A n c) e 1 n (U.map λc=>Value.int .u8 c.toNat) L)(hn:U.length=n):BS w (.slice A n c) U:=by
 subst hn;refine⟨A,c,rfl,?_,⟨λV=>?_⟩⟩
 ·rcases h.own.2 with⟨e1,e2⟩|⟨g,aa,cur,e1,_,_,Z,_⟩
  ·omega
  ·cases e1;exact Z
 ·obtain⟨g,rfl,_,_,_,hc⟩:=h.cells (Cf.2 V);refine⟨g,0,rfl,λj x hx k v hv=>?_⟩;cases k with
  | succ k=>simp[encB]at hv
  | zero=>
   simp only[encB,AQ,AI]at hv;subst hv;have:=hc j (.int .u8 x.toNat) (by rw[Ao,hx];rfl)
   simpa using this
theorem Wit.shrN{k:IntKind}{b:Int}{K:Int->Prop}(n:Nat)(e:b=(n:Int))(V:n<k.bits)(U:K ((a/2 ^ n:Nat):Int)):
  Wit (λr=>0<=b/\b<k.bits/\(a:Int)/2 ^ b.toNat=r) K:=by
 subst e;refine⟨_,⟨by omega,by omega,?_⟩,U⟩;rw[CY];simp
theorem BytesS.sl{n:Nat}{K:DF->Prop}(h:SlAt encB 1 w A l)(Z:l.length=n)(hk:K (.string ⟨l.toArray⟩)):BytesS w A n K:=
 ⟨l,Z,λU=>by
  obtain⟨b,off,h1,h2⟩:=h.at_ U;refine⟨b,off,h1,λk v V=>?_⟩;rw[byteCells,Ao]at V;obtain⟨x,hx,rfl⟩:=C6.1 V;have:=h2 k x hx 0 (.int .u8 x.toNat) rfl
  simpa using this,hk⟩
theorem Wit.low8{K:Int->Prop}(U:K ((a%256:Nat):Int)):Wit (λr=>IntKind.u8.wrap (a:Int)=r) K:=by
 refine⟨_,?_,U⟩;simp[IntKind.wrap,IntKind.bits,IntKind.signed]
end V
theorem q90(w:DA):Gv DM 229 [ii 4] w λr w'=>r=ii 4/\w'=w:=by
 refine ze Tryz.func229 Tryz.ntmps229 ?_;refine V.Fall.min2 rfl rfl rfl λm U=>?_;obtain rfl:m=4:=by omega
 (conv=>whnf);refine V.Fall.max2 rfl rfl rfl λm U=>?_;obtain rfl:m=4:=by omega
 (conv=>whnf);exact⟨rfl,rfl⟩
theorem q05(n:Nat)(w:DA)(_:n<4294967296):
  Gv DM 156 [.int .u64 n,ii 4] w λr w'=>BS w' r (fixL n 4)/\Ext w w':=by
 refine ze Tryz.func156 Tryz.ntmps156 ?_;refine qq (λx:Nat×oA×Nat=>[(0,.int .u64 n),(1,ii 4),(5,.slice x.2.1 x.1 x.2.2),(6,ii x.1)])
  (λx Z=>x.1<=4/\Rw w Z (.slice x.2.1 x.1 x.2.2) 5 1 x.1 ((fixL n x.1).map λc=>Value.int .u8 c.toNat) []) (λx=>4-x.1) (0,none,0) fq ⟨by simp,Rw.nil (Mem.nil w)⟩ ?_
 rintro⟨i,A,c⟩ Z af ⟨h1,U⟩;dsimp only at h1 U|-;(conv=>whnf);refine zcv (q90 Z) ?_;rintro r w3 ⟨rfl,rfl⟩;(conv=>whnf);refine zC (λ_=>zu ?_) (λ_=>zu ?_)
 ·refine V.Wit.shrN (8*i) Oo (by show 8*i<64;omega) (zw ?_);refine V.Wit.low8 (zw ?_);refine NewV.rw U λnb w4 aa=>zw ?_;refine AppV.one qge bytI bytZ Jk rfl (by decide +kernel) aa rfl Oo ?_;intro B' d' w5 ad;refine zu ?_;refine⟨(i+1,B',d'),fq,⟨by simp only;omega,?_⟩,by simp only;omega⟩;simp only[fixL,AH,AB,B4];have e:(UInt8.ofNat (n/2 ^ (8*i)%256)).toNat=n/2 ^ (8*i)%256:=by simp
  rw[e];exact ad
 ·obtain rfl:i=4:=by omega
  exact⟨U.byts (qv n 4),U.mem.ext⟩
theorem qmu(l:LB)(A:oA)(n c:Nat)(w:DA)(Z:SlAt encB 1 w A l)(hn:l.length=n)(hl:l.length<=140737488355328):
  Gv DM 92 [.slice A n c] w λr w'=>BS w' r (fixL (crcL l).toNat 4)/\Ext w w':=by
 have hs:=q01 l A n c w Z hn hl;have U:=qtw (crcL l);refine ze Tryz.func92 Tryz.ntmps92 ?_;refine zcv (hs) ?_;rintro r w1 ⟨rfl,rfl⟩;refine zu ?_;refine zcv (q05 _ w1 U) ?_;rintro r w2 ⟨⟨A',c',rfl,h1,h2⟩,V⟩;(conv=>whnf);exact⟨⟨A',c',rfl,h1,h2⟩,V⟩
structure One(wd:DA)(o:Obj)(F:DG)(s2 s5 s8 s11 s12 s13:Bool)(v12:DF)(w:DA):Prop where
 a:s13=false->Ext wd w/\(s12=true->CurAt wd w v12 o)
 f:s13=true->F v12 w/\s2=true/\s5=true/\s8=true/\s11=true/\s12=true
section
variable {wd w w':DA} {o:Obj} {F:DG} {s2 s5 s8 s11 s12 s13:Bool} {v12:DF}
theorem One.start:One wd o F false false false false false false v12 wd:=⟨λ_=>⟨xr,λh=>(by cases h)⟩,λh=>(by cases h)⟩
theorem One.of{u2 u5 u8 V:Bool}(h:One wd o F s2 s5 s8 s11 s12 s13 v12 w)(Z:s13=false)(he:Ext w w'):One wd o F u2 u5 u8 V s12 s13 v12 w':=
 ⟨λU=>⟨(h.a U).1.trans he,λaa=>let⟨b,h1,h2,h3⟩:=(h.a U).2 aa;⟨b,h1,h2,he.get h3⟩⟩,λU=>(by rw[Z]at U;cases U)⟩
theorem One.z2(h:One wd o F false s5 s8 s11 s12 s13 v12 w):s13=false:=by
 cases U:s13
 ·rfl
 ·have:=(h.f U).2.1;cases this
theorem One.z5(h:One wd o F s2 false s8 s11 s12 s13 v12 w):s13=false:=by
 cases U:s13
 ·rfl
 ·have:=(h.f U).2.2.1;cases this
theorem One.z8(h:One wd o F s2 s5 false s11 s12 s13 v12 w):s13=false:=by
 cases U:s13
 ·rfl
 ·have:=(h.f U).2.2.2.1;cases this
theorem One.z11(h:One wd o F s2 s5 s8 false s12 s13 v12 w):s13=false:=by
 cases U:s13
 ·rfl
 ·have:=(h.f U).2.2.2.2.1;cases this
theorem One.z12(h:One wd o F s2 s5 s8 s11 false s13 v12 w):s13=false:=by
 cases U:s13
 ·rfl
 ·have:=(h.f U).2.2.2.2.2;cases this
theorem One.alloc(h:One wd o F s2 s5 s8 s11 false s13 v12 w):One wd o F s2 s5 s8 s11 true s13 (.pointer (some ⟨w.heap.size,0,none⟩)) (w.alloc o):=by
 have U:=h.z12;have V:=(h.a U).1;exact⟨λ_=>⟨V.alloc o,λ_=>⟨_,rfl,V.size,heap_alloc_new w o⟩⟩,λZ=>(by rw[U]at Z;cases Z)⟩
end
def qeq(l:LB):DK:=if(qt l).2=0 then[ii (hN l 2),ii (hN l 3),ii (hN l 4),ii (hN l 5)]else[ii 0,ii 0,ii 0,ii 0]
theorem qnv(l:LB)(A:oA)(n c:Nat)(w:DA)(hS:SlAt encB 1 w A l)(hn:l.length=n)(hc:n<=c)(hl:l.length<=140737488355328):
  Gv DM 48 [.slice A n c] w λv w'=>v=.tuple #[.agg (qeq l).toArray,.agg #[ii (qt l).1,ii (qt l).2]]/\Ext w w':=by
 refine ze Tryz.func48 Tryz.ntmps48 ?_;refine znm (Mem.nil w) ?_;intro b w1 U;have U:Mem w w1 [(b,.cells #[ii 0,ii 0,ii 0,ii 0] 53)]:=U;(conv=>whnf);refine znm U ?_;intro f w2 U;have U:Mem w w2 [(f,.cells #[ii 0,ii 0] 55),(b,.cells #[ii 0,ii 0,ii 0,ii 0] 53)]:=U;(conv=>whnf);refine zC (λ_=>zw ?_) (λ_=>zw ?_);have hR:qt l=(l.length,10):=by rw[qt,Ab Oo]
 rotate_left
 have af:28<=l.length:=by omega
 refine SliceV.bs hS hn 0 4 c rfl rfl rfl Oo Oo Oo znr (λh=>by cases h) ?_;intro A1 an;(conv=>whnf);refine BytesS.sl (an.ext U.ext) Ys (zw ?_);have ag:(!seq ⟨((l.drop 0).take (4-0)).toArray⟩ ⟨#[84,83,82,65]⟩)=decide (hN l 0≠1095914324):=by
  rw[AD];simp only[Co,decide_eq_true_eq,ne_eq,<-D5,qab];refine not_congr ?_;have aa:((l.drop 0).take 4).length=4:=by simp;omega
  have:hN l 0=leN ((l.drop 0).take 4):=rfl;rw[this]
  constructor
  ·intro h;have h2:(l.drop 0).take 4=[84,83,82,65]:=by
    have:=Ad (λs:DB=>s.data.toList) h
    simpa using this
   rw[h2];rfl
  ·intro h;have h2:(l.drop 0).take 4=[84,83,82,65]:=q4c aa (by rw[h];rfl);show(⟨((l.drop 0).take 4).toArray⟩:DB)=_;rw[h2]
 rw[ag];refine zC (λ_=>zw ?_) (λ_=>zw ?_);have hR:qt l=(0,190):=by rw[qt,Aa Oo,Ab ‹_›]
 rotate_left
 rename_i am
 refine DrawV.free Jk Jk (zw ?_);refine zd ?_;apply StepD.of (λv w=>∃A' c',v=.slice A' 24 c'/\SlAt encB 1 w A' (l.take 24)) (λ_ _ _ h he=>let⟨A',c',h1,h2⟩:=h;⟨A',c',h1,h2.ext he⟩)
 ·intro wd hd;(conv=>whnf);refine SliceV.bs (hS.ext (U.drew.ext.trans hd)) hn 0 24 c rfl rfl rfl Oo Oo Oo znr (λh=>by cases h) ?_;intro A' ad;(conv=>whnf);exact⟨xr,_,_,rfl,ad⟩
 (conv=>whnf);apply StepD.of (λv w=>BS w v (fixL (crcL (l.take 24)).toNat 4)) (λ_ _ _ h he=>h.ext he)
 ·intro wd hd;(conv=>whnf);rintro v ⟨A',c',rfl,ad⟩;(conv=>whnf);refine zcv (qmu (l.take 24) A' 24 c' wd ad Ys Ys) ?_;rintro v w9 ⟨h9,ae⟩;exact⟨ae,h9⟩
 (conv=>whnf);apply zsd
 ·intro wd hd;(conv=>whnf);rintro v ⟨A',c',rfl,h1,h2⟩;(conv=>whnf);refine BytesS.sl h2 rfl (zw ?_);exact xq
 (conv=>whnf);refine zd ?_;apply StepD.of (λv w=>∃A' c',v=.slice A' 4 c'/\SlAt encB 1 w A' ((l.drop 24).take 4)) (λ_ _ _ h he=>let⟨A',c',h1,h2⟩:=h;⟨A',c',h1,h2.ext he⟩)
 ·intro wd hd;(conv=>whnf);refine SliceV.bs (hS.ext (U.drew.ext.trans hd)) hn 24 28 c rfl rfl rfl Oo Oo Oo znr (λh=>by cases h) ?_;intro A' ad;(conv=>whnf);exact⟨xr,_,_,rfl,ad⟩
 (conv=>whnf);apply zsd
 ·intro wd hd;(conv=>whnf);rintro v ⟨A',c',rfl,h2⟩;(conv=>whnf);refine BytesS.sl h2 Ys (zw ?_);exact xq
 (conv=>whnf);refine zd ?_;intro w9 ae
 (repeat(intro _ _;(conv=>whnf)))
 (conv=>whnf);replace U:=U.drew.call ae;have ah:(!seq ⟨(fixL (crcL (l.take 24)).toNat 4).toArray⟩ ⟨((l.drop 24).take 4).toArray⟩)=decide (hN l 6≠(crcL (l.take 24)).toNat):=by
  rw[AD];simp only[Co,decide_eq_true_eq,ne_eq,<-D5,qab];refine not_congr ?_;have aa:((l.drop 24).take 4).length=4:=by simp;omega
  have:hN l 6=leN ((l.drop 24).take 4):=rfl;rw[this,<-qrx aa (qtw _)]
  constructor
  ·intro h;have:=Ad (λs:DB=>s.data.toList) h
   simpa using this
  ·intro h;rw[h]
 rw[ah];refine zC (λ_=>zw ?_) (λ_=>zw ?_);have hR:qt l=(24,30):=by rw[qt,Aa Oo,Aa Oo,Ab ‹_›]
 rotate_left
 rename_i ax
 refine SliceV.bs hS hn 4 n c rfl rfl rfl Oo Oo Oo znr (λh=>by cases h) ?_;intro A4 ai;rw[Aj Ys]at ai;(conv=>whnf);refine zcv (qfp (l.drop 4) A4 _ _ _ (ai.ext U.ext) Ys Ys) ?_;rintro v ao ⟨rfl,aj⟩;replace U:=U.call aj;have aq:leN ((l.drop 4).take 4)=hN l 1:=rfl;rw[aq];(conv=>whnf);refine zC (λ_=>zw ?_) (λ_=>zw ?_);have hR:qt l=(4,191):=by rw[qt,Aa Oo,Aa Oo,Aa Oo,Ab Oo]
 rotate_left
 obtain⟨g,off,hA,_⟩:=hS.at_ (by intro e;rw[e]at af;simp at af);subst hA;obtain⟨F,hF⟩:∃F:DF->DA->Prop,F=λv w'=>∃x,v=pp x/\Mem w w' [(x,.cells #[ii (hN l 2),ii (hN l 3),ii (hN l 4),ii (hN l 5)] 53),(f,.cells #[ii 0,ii 0] 55),(b,.cells #[ii 0,ii 0,ii 0,ii 0] 53)]:=⟨_,rfl⟩
 refine DrawV.gen (λS vals w'=>One ao.drew (.cells #[ii 0,ii 0,ii 0,ii 0] 53) F (S 2) (S 5) (S 8) (S 11) (S 13) (S 14) (vals 13) w') rfl Jk (λvals=>One.start) (zw ?_);refine zg ?_;refine StepG.of (.slice (some ⟨g,off+8,none⟩) (n-8) (c-8)) (λS vals wd hk hp V=>zw ?_) (zw ?_)
 ·refine SliceV.rest 8 rfl hc Oo (zw ?_);exact⟨rfl,V⟩
 refine StepG.of (ii (hN l 2)) (λS vals wd hk hp V=>?_) (zw ?_)
 ·dsimp only at V;rw[hk]at V;have hz:=V.z2;have hx:=(V.a hz).1;(conv=>whnf);have hB:=SlAt.rest (a:=8) (hS.ext (U.drew.ext.trans hx)) Oo;refine zcv (qfp (l.drop 8) _ _ _ wd hB (by rw[zld,hn]) (by rw[zld];omega)) ?_;rintro v w9 ⟨rfl,h9⟩;exact⟨rfl,V.of hz h9⟩
 refine zg ?_;refine StepG.of (.slice (some ⟨g,off+12,none⟩) (n-12) (c-12)) (λS vals wd hk hp V=>zw ?_) (zw ?_)
 ·refine SliceV.rest 12 rfl hc Oo (zw ?_);exact⟨rfl,V⟩
 refine StepG.of (ii (hN l 3)) (λS vals wd hk hp V=>?_) (zw ?_)
 ·dsimp only at V;rw[hk]at V;have hz:=V.z5;have hx:=(V.a hz).1;(conv=>whnf);have hB:=SlAt.rest (a:=12) (hS.ext (U.drew.ext.trans hx)) Oo;refine zcv (qfp (l.drop 12) _ _ _ wd hB (by rw[zld,hn]) (by rw[zld];omega)) ?_;rintro v w9 ⟨rfl,h9⟩;exact⟨rfl,V.of hz h9⟩
 refine zg ?_;refine StepG.of (.slice (some ⟨g,off+16,none⟩) (n-16) (c-16)) (λS vals wd hk hp V=>zw ?_) (zw ?_)
 ·refine SliceV.rest 16 rfl hc Oo (zw ?_);exact⟨rfl,V⟩
 refine StepG.of (ii (hN l 4)) (λS vals wd hk hp V=>?_) (zw ?_)
 ·dsimp only at V;rw[hk]at V;have hz:=V.z8;have hx:=(V.a hz).1;(conv=>whnf);have hB:=SlAt.rest (a:=16) (hS.ext (U.drew.ext.trans hx)) Oo;refine zcv (qfp (l.drop 16) _ _ _ wd hB (by rw[zld,hn]) (by rw[zld];omega)) ?_;rintro v w9 ⟨rfl,h9⟩;exact⟨rfl,V.of hz h9⟩
 refine zg ?_;refine StepG.of (.slice (some ⟨g,off+20,none⟩) (n-20) (c-20)) (λS vals wd hk hp V=>zw ?_) (zw ?_)
 ·refine SliceV.rest 20 rfl hc Oo (zw ?_);exact⟨rfl,V⟩
 refine StepG.of (ii (hN l 5)) (λS vals wd hk hp V=>?_) (zw ?_)
 ·dsimp only at V;rw[hk]at V;have hz:=V.z11;have hx:=(V.a hz).1;(conv=>whnf);have hB:=SlAt.rest (a:=20) (hS.ext (U.drew.ext.trans hx)) Oo;refine zcv (qfp (l.drop 20) _ _ _ wd hB (by rw[zld,hn]) (by rw[zld];omega)) ?_;rintro v w9 ⟨rfl,h9⟩;exact⟨rfl,V.of hz h9⟩
 refine zg ?_;refine StepG.any (λS vals wd hk hp V=>?_) (zw ?_)
 ·dsimp only at V;rw[hk]at V;have hz:=V.z12;have hx:=(V.a hz).1;(conv=>whnf);refine⟨λx wx hb hw=>?_⟩;subst hb hw;(conv=>whnf);exact⟨trivial,V.alloc⟩
 refine StepG.of undef (λS vals wd hk hp V=>?_) (zw ?_)
 ·dsimp only at V;have h2:S 2=true:=hp 2 Od;have h5:S 5=true:=hp 5 Od;have h8:S 8=true:=hp 8 Od;have ar:S 11=true:=hp 11 Od;have ak:S 13=true:=hp 13 Od;rw[hk]at V;obtain⟨hx,au⟩:=V.a rfl;obtain⟨x,Z,hb,ho⟩:=au ak;have av:=U.drew.fresh hx hb ho;rw[ql Z];(conv=>whnf);refine StoreA.all av (i:=0) rfl rfl (by intro v Z;simp at Z;rcases Z with rfl|rfl|rfl|rfl<;>rfl) λwx aw=>zw ?_;refine⟨rfl,⟨λh=>(by cases h),λ_=>⟨?_,h2,h5,h8,ar,ak⟩⟩⟩;rw[hF];exact⟨x,rfl,aw⟩
 intro vals ay V;have al:=(V.f rfl).1;rw[hF]at al;obtain⟨x,Z,U⟩:=al;rw[ql Z];(conv=>whnf);have g4:=q8v l 4;have g5:=q8v l 5
 (repeat'(first|refine zp ?_|refine zC (λ_=>zw ?_) (λ_=>zw ?_)|refine LoadV.mem (i:=0) Oa rfl rfl (zw ?_)))
 ·
  refine StoreA.all U (i:=2) rfl rfl Od λw3 U=>zw ?_;refine StoreA.all U (i:=1) rfl rfl (by intro v Z;simp at Z;rcases Z with rfl|rfl<;>rfl) λw4 U=>zw ?_;refine qd (R:=λv w'=>v=.tuple #[.agg (qeq l).toArray,.agg #[ii (qt l).1,ii (qt l).2]]/\Ext w w') (zw ?_);refine zl U 2 ?_;refine zl U 1 ?_;have hR:qt l=(0,2):=by rw[qt,Aa Oo,Aa Oo,Aa Oo,Aa Oo,Ab Oo]
  refine⟨?_,U.ext⟩;rw[qeq,hR];subst hn;rfl
 ·
  refine StoreA.all U (i:=2) rfl rfl Od λw3 U=>zw ?_;refine StoreA.all U (i:=1) rfl rfl (by intro v Z;simp at Z;rcases Z with rfl|rfl<;>rfl) λw4 U=>zw ?_;refine qd (R:=λv w'=>v=.tuple #[.agg (qeq l).toArray,.agg #[ii (qt l).1,ii (qt l).2]]/\Ext w w') (zw ?_);refine zl U 2 ?_;refine zl U 1 ?_;have hR:qt l=(l.length,10):=by rw[qt,Aa Oo,Aa Oo,Aa Oo,Aa Oo,Aa Oo,Ab Oo]
  refine⟨?_,U.ext⟩;rw[qeq,hR];subst hn;rfl
 ·
  refine StoreA.all U (i:=2) rfl rfl Od λw3 U=>zw ?_;refine StoreA.all U (i:=1) rfl rfl (by intro v Z;simp at Z;rcases Z with rfl|rfl<;>rfl) λw4 U=>zw ?_;refine qd (R:=λv w'=>v=.tuple #[.agg (qeq l).toArray,.agg #[ii (qt l).1,ii (qt l).2]]/\Ext w w') (zw ?_);refine zl U 2 ?_;refine zl U 1 ?_;have hR:qt l=(hN l 4+hN l 5+36,13):=by rw[qt,Aa Oo,Aa Oo,Aa Oo,Aa Oo,Aa Oo,Aa Oo,Ab Oo]
  refine⟨?_,U.ext⟩;rw[qeq,hR];subst hn;rfl
 refine zl U 0 ?_;refine StoreA.all U (i:=2) rfl rfl (by intro v Z;simp at Z;rcases Z with rfl|rfl|rfl|rfl<;>rfl) λw3 U=>zw ?_;refine StoreA.all U (i:=1) rfl rfl (by intro v Z;simp at Z;rcases Z with rfl|rfl<;>rfl) λw4 U=>zw ?_;refine qd (R:=λv w'=>v=.tuple #[.agg (qeq l).toArray,.agg #[ii (qt l).1,ii (qt l).2]]/\Ext w w') (zw ?_);refine zl U 2 ?_;refine zl U 1 ?_;have hR:qt l=(0,0):=by rw[qt,Aa Oo,Aa Oo,Aa Oo,Aa Oo,Aa Oo,Aa Oo,Aa Oo]
 refine⟨?_,U.ext⟩;rw[qeq,hR];rfl
 all_goals
  refine StoreA.all U (i:=1) rfl rfl Od λw3 U=>zw ?_;refine StoreA.all U (i:=0) rfl rfl (by intro v Z;simp at Z;rcases Z with rfl|rfl<;>rfl) λw4 U=>zw ?_;refine qd (R:=λv w'=>v=.tuple #[.agg (qeq l).toArray,.agg #[ii (qt l).1,ii (qt l).2]]/\Ext w w') (zw ?_);refine zl U 1 ?_;refine zl U 0 ?_;refine⟨?_,U.ext⟩;rw[qeq,hR];subst hn;rfl
end Go.Proofs.YtccmcfpmknpccaaGreatDoor
