/- Lemmas and contracts of functions on the way to the law's card (part 10 of 16). -/
import Derived.Test.YtccmcfpmknpccaaGreatDoorST9
import Derived.Laws.CopyRow
import Derived.Laws.IdiomCopy
namespace Go.Proofs.YtccmcfpmknpccaaGreatDoor
set_option maxHeartbeats 8000000
open Go.RowKit
variable {w w' w0:Dd} {F G:Do} {a b base c g i j k m off pb sz tb vb:Nat} {cs cur:Dq} {fr:Nat×Nat} {e ty:Dg} {news vs xs:Dn} {P:Df} {z:Di} {A:oA} {K:Dj} {l:LB} {B Y:Dm} {p:Prop} {J:Dm->Dl} {Q:Nat->Nat->Nat} {qs:List Q4} {pl:Int} {ρ:Dk} {o:Oper}
namespace V
structure Chn(F:Do)(w w':Dd):Prop where
 os:w'.os=w.os
 tape:w'.tape=w.tape
 output:w'.output=w.output
 size:w.heap.size<=w'.heap.size
 block:∀k,k<w.heap.size->k∉F->w'.heap[k]?=w.heap[k]?
theorem Chn.refl(F:Do)(w:Dd):Chn F w w:=⟨rfl,rfl,rfl,Ao _,λ_ _ _=>rfl⟩
theorem Chn.of(F:Do)(h:Ext w w'):Chn F w w':=⟨h.os,h.tape,h.output,h.size,λk H _=>h.block k H⟩
theorem Chn.trans{a b c:Dd}(h:Chn F a b)(g:Chn F b c):Chn F a c:=
 ⟨g.os.trans h.os,g.tape.trans h.tape,g.output.trans h.output,A6 h.size g.size,λk H U=>(g.block k (AE H h.size) U).trans (h.block k H U)⟩
theorem Chn.mono(h:Chn F w w')(U:∀k∈F,k∈G):Chn G w w':=⟨h.os,h.tape,h.output,h.size,λk H Z=>h.block k H (by grind)⟩
theorem Chn.ext(h:Chn F w w')(H:Ext w0 w)(Z:∀k∈F,w0.heap.size<=k):Ext w0 w':=
 Below.trans H ⟨h.os,h.tape,h.output,h.size,λk U=>h.block k (AE U H.size) (by grind)⟩
theorem Chn.grown{r:Option Nat}(h:w.grownBy w' r):Chn r.toList w w':=
 ⟨h.os,h.tape,h.output,h.size,λk H U=>h.block k H (by grind)⟩
theorem Chn.set{t:Dg}{v:Di}(h:w.heap[b]?=some (.cells cs t fr))(H:w'=w.setCell ⟨b,off,none⟩ v):
  Chn [b] w w'/\w'.heap[b]?=some (.cells (cs.setIfInBounds off v) t fr):=by
 subst H;exact⟨⟨rfl,rfl,rfl,by simp,(by grind [Below.heap_setCell])⟩,heap_setCell h⟩
theorem Chn.upd_{o:Obj}(h:Chn [b] w w')(H:w'.heap[b]?=some o):Upd w w' b o:=⟨h.os,h.tape,h.output,h.size,λk U Z=>h.block k U (by grind),H⟩
structure Sep(w0 w:Dd)(Fs:List Do):Prop where
 ext:Ext w0 w
 lo:∀F∈Fs,∀k∈F,w0.heap.size<=k/\k<w.heap.size
 ap:Fs.Pairwise λF G=>∀k∈F,k∉G
section
variable {w0 w w':Dd} {Fs:List Do}
theorem Sep.of(h:Ext w0 w):Sep w0 w []:=⟨h,Js,List.Pairwise.nil⟩
theorem Sep.call(h:Sep w0 w Fs)(H:Ext w w'):Sep w0 w' Fs:=
 ⟨h.ext.trans H,λF U k Z=>⟨(h.lo F U k Z).1,AE (h.lo F U k Z).2 H.size⟩,h.ap⟩
theorem Sep.add(h:Sep w0 w Fs)(he:Ext w w')(Z:∀k∈F,w.heap.size<=k/\k<w'.heap.size):Sep w0 w' (F::Fs):=by
 refine⟨h.ext.trans he,λG H k U=>?_,AV.2 ⟨λG H k U hg=>?_,h.ap⟩⟩
 ·rcases Aw.1 H with rfl|H
  ·exact⟨A6 h.ext.size (Z k U).1,(Z k U).2⟩
  ·exact(h.call he).lo G H k U
 ·have:=(Z k U).1;have:=(h.lo G H k hg).2;omega
theorem Sep.new(h:Sep w0 w Fs){o:Obj}(H:b=w.heap.size)(U:w'=w.alloc o):Sep w0 w' ([b]::Fs)/\w'.heap[b]?=some o:=by
 subst H U;refine⟨h.add ((Ext.refl w).alloc o) λk Z=>?_,heap_alloc_new w _⟩
 simp_all
theorem Sep.drop(h:Sep w0 w Fs)(n:Nat):Sep w0 w (Fs.drop n):=
 ⟨h.ext,λF H=>h.lo F (by grind),h.ap.sublist (by grind)⟩
theorem Sep.perm{H:List Do}(h:Sep w0 w Fs)(U:Fs.Perm H):Sep w0 w H:=
 ⟨h.ext,λF Z=>h.lo F (by grind),U.pairwise h.ap (by grind)⟩
theorem Sep.at_(h:Sep w0 w Fs)(H:Fs[i]?=some F):∀k∈F,w0.heap.size<=k/\k<w.heap.size:=h.lo F (by grind)
theorem Sep.apart(h:Sep w0 w Fs)(hi:Fs[i]?=some F)(hj:Fs[j]?=some G)(H:i≠j):∀k∈G,k∉F:=by
 obtain⟨U,rfl⟩:=Ad.1 hi;obtain⟨Z,rfl⟩:=Ad.1 hj;intro k hk hf
 rcases Nat.lt_or_gt_of_ne H with g|g
 ·exact(Bj.1 h.ap) i j U Z g k hf hk
 ·exact(Bj.1 h.ap) j i Z U g k hk hf
theorem Sep.chg(h:Sep w0 w Fs){F':Do}(hi:Fs[i]?=some F)(hc:Chn F w w')(hn:∀k∈F',(k∈F\/w.heap.size<=k)/\k<w'.heap.size):Sep w0 w' (Fs.set i F'):=by
 have hF:=h.at_ hi;have hx:Ext w0 w':=hc.ext h.ext (by grind);refine⟨hx,λG hG k U=>?_,?_⟩
 ·rcases Ce hG with hG|rfl
  ·have:=h.lo G hG k U;have:=hc.size;omega
  ·obtain⟨H,h2⟩:=hn k U;refine⟨?_,h2⟩
   rcases H with H|H
   ·simp_all
   ·exact A6 h.ext.size H
 ·have Z:∀j G,Fs[j]?=some G->j≠i->(∀k∈F',k∉G):=λj G hj ab k U hg=>by
   rcases(hn k U).1 with H|H
   ·exact h.apart hi hj Oo k hg H
   ·have:=(h.at_ hj k hg).2;omega
  refine Bj.2 λa b ha hb aa=>?_;simp only[C6]at ha hb;rw[List.getElem_set,List.getElem_set]
  by_cases e1:i=a
  ·rw[Af e1,Ab Oo];exact Z b _ Js Oo
  ·rw[Ab e1]
   by_cases e2:i=b
   ·rw[Af e2];intro k U hf;exact Z a _ Js Oo k hf U
   ·rw[Ab e2];exact(Bj.1 h.ap) a b ha hb aa
theorem Sep.keep(h:Sep w0 w Fs)(hi:Fs[i]?=some F)(hc:Chn F w w')(U:Fs[j]?=some G)(H:i≠j):∀k∈G,w'.heap[k]?=w.heap[k]?:=
 λk Z=>hc.block k (h.at_ U k Z).2 (h.apart hi U H k Z)
end
def rowF(v:Di):Do:=v.ownBlock.toList
theorem qam{H n:Nat}{v:Di}(h:w.ownsRow base e H v n xs)(Z:∀k∈rowF v,w'.heap[k]?=w.heap[k]?):w'.ownsRow base e H v n xs:=by
 refine⟨h.1,h.2.imp id ?_⟩;rintro⟨g,U,cur,rfl,h1,h2,h3⟩;exact⟨g,U,cur,rfl,h1,by rw[Z g (Ac.2 rfl)];exact h2,h3⟩
theorem qhu{H n:Nat}{v:Di}(h:w.ownsRow base e H v n xs):∀k∈rowF v,base<=k/\k<w.heap.size:=by
 intro k U;cases Z:v.ownBlock with
 | none=>grind [rowF]
 | some g=>
  rw[rowF,Z]at U;rw[Ac.1 U];exact h.lt g Z
theorem AppV.row{e size:Nat}{v:Di}{n:Nat}{t:Dg}{i:TypeInfo}(ht:P.underlying t=some (.slice e))(hi:P.info? e=some i)(hz:i.zero=some z)(H:i.size=size)(aa:z.cells.size=size)(ab:0<size)(h:w.ownsRow 0 e size v n xs)(hl:news.length=m*size)(hA:news≠[]->∃b off,A=some ⟨b,off,none⟩/\CellsAt w b off news)(h1:∀u∈news,u.oneCell'=true)(hb:(n+m)*i.bytes<=140737488355328)(ac:n+m<=140737488355328)(hk:∀U Z w',w'.ownsRow 0 e size (.slice U (n+m) Z) (n+m) (xs++news)->Chn (rowF v) w w'->(∀k∈rowF (.slice U (n+m) Z),(k∈rowF v\/w.heap.size<=k)/\k<w'.heap.size)->K (.slice U (n+m) Z) w'):AppV P #[t,t] ty v (.slice A m c) w K:=by
 refine AppV.own ht hi hz H aa ab h Oo hl hA h1 hb ac λv' w' ho hg ad=>?_;obtain⟨U,Z,rfl⟩:=qbn ho;refine hk U Z w' ho (Chn.grown hg) λk hk=>⟨?_,(qhu ho k hk).2⟩
 grind [rowF]
theorem AppV.bys{v:Di}{x m:LB}{t:Dg}{i:TypeInfo}{B:oA}{d:Nat}(ht:P.underlying t=some (.slice e))(hi:P.info? e=some i)(hz:i.zero=some z)(H:i.size=1)(aa:z.cells.size=1)(ab:i.bytes<=16)(h:w.ownsRow 0 e 1 v x.length (byV x))(hS:SlAt encB 1 w B m)(U:x.length+m.length<=8000000000000)(hk:∀Z c' w',w'.ownsRow 0 e 1 (.slice Z (x.length+m.length) c') (x++m).length (byV (x++m))->Chn (rowF v) w w'->(∀k∈rowF (.slice Z (x.length+m.length) c'),(k∈rowF v\/w.heap.size<=k)/\k<w'.heap.size)->K (.slice Z (x.length+m.length) c') w'):
  AppV P #[t,t] ty v (.slice B m.length d) w K:=by
 refine AppV.row (news:=byV m) ht hi hz H aa Od h (by grind [qaq]) (qrw hS) (λu hu=>?_) (A6 (Bz U ab) Od) Oo λZ c' w' ho hc hn=>hk Z c' w' ?_ hc hn
 ·simp only[byV,AG]at hu;obtain⟨v,_,rfl⟩:=hu;rfl
 grind [byV]
theorem BS.keep{v:Di}(h:BS w v l)(H:∀k∈rowF v,w'.heap[k]?=w.heap[k]?):BS w' v l:=by
 obtain⟨A,c,rfl,U,Z⟩:=h;refine⟨A,c,rfl,U,⟨λhn=>?_⟩⟩;obtain⟨b,off,rfl,h4⟩:=Z.at_ hn;refine⟨b,off,rfl,λj x hx k u hu=>?_⟩;have:=h4 j x hx k u hu;rw[<-this,World.cell?_of_block];exact H b (Ac.2 rfl)
structure NewS(e:Dg)(w w':Dd)(v:Di)(l:LB):Prop where
 ext:Ext w w'
 h:∃A c,v=.slice A l.length c/\l.length<=c/\(l=[]\/∃g cur,A=some ⟨g,0,none⟩/\w'.heap[g]?=some (.cells cur e)/\l.length<=cur.size/\cur.toList.take l.length=byV l/\c<=cur.size)
 lo:∀k∈rowF v,w.heap.size<=k/\k<w'.heap.size
theorem NewS.bs{v:Di}(h:NewS e w w' v l):BS w' v l:=by
 obtain⟨A,c,rfl,U,Z⟩:=h.h;refine⟨A,c,rfl,U,⟨λhn=>?_⟩⟩;obtain⟨g,cur,rfl,h3,h4,h5,_⟩:=Z.resolve_left hn;refine⟨g,0,rfl,λj u hu k v H=>?_⟩;cases k with
 | succ k=>simp[encB]at H
 | zero=>
  simp only[encB,Bc,AN]at H;subst H;have hj:(cur.toList.take l.length)[j]?=some (.int .u8 u.toNat):=by grind [byV]
  grind [qa]
theorem qel(A:oA)(n c m d:Nat):rowF (.slice A n c)=rowF (.slice A m d):=by cases A<;>rfl
theorem NewS.of(H:Ext w w')(h:w'.ownsRow w.heap.size e 1 (.slice A l.length c) l.length (byV l))(d:Nat)(U:l.length<=d)(Z:d<=c):NewS e w w' (.slice A l.length d) l:=by
 refine⟨H,⟨A,d,rfl,U,?_⟩,λk hk=>qhu h k (by grind [qel])⟩
 rcases h.2 with⟨e1,h0⟩|⟨g,aa,cur,e1,h1,h2,h3,h4,h5,h6⟩
 all_goals simp_all
theorem NewS.back{v:Di}(h:NewS e w w' v l)(H:Ext w0 w):NewS e w0 w' v l:=
 ⟨H.trans h.ext,h.h,λk U=>⟨A6 H.size (h.lo k U).1,(h.lo k U).2⟩⟩
end V
namespace V
theorem Ext.first{o:Obj}(H:Ext w w')(ho:w'.heap[w.heap.size]?=some o):Ext (w.alloc o) w':=by
 have U:w.heap.size<w'.heap.size:=by
  grind
 refine⟨H.os,H.tape,H.output,by rw[World.size_alloc];omega,λk Z=>?_⟩;rw[World.size_alloc]at Z
 by_cases e:k=w.heap.size
 ·grind [heap_alloc_new]
 ·rw[Below.heap_alloc _ _ _ Oo];exact H.block k Oo
def qts(w:Dd)(n k:Nat):Dm:=((List.range k).map λi=>(n+i,(w.heap[n+i]?).getD (.cells #[] 0))).reverse
section
variable {J:Dm->Dl}
theorem Carr.since(hJ:Carr J){X:Dm}(h:J X w)(he:Ext w w'):J (qts w' w.heap.size (w'.heap.size-w.heap.size)++X) w':=by
 have H:∀k,w.heap.size+k<=w'.heap.size->∃v,v.heap.size=w.heap.size+k/\Ext v w'/\J (qts w' w.heap.size k++X) v:=by
  intro k
  induction k with
  | zero=>intro _;exact⟨w,rfl,he,h⟩
  | succ k ih=>
   intro hk;obtain⟨v,h1,U,Z⟩:=ih Oo;have ho:w'.heap[v.heap.size]?=some w'.heap[v.heap.size]:=(by simp)
   refine⟨v.alloc w'.heap[v.heap.size],by grind [World.size_alloc],U.first ho,?_⟩;have h4:=hJ.new w'.heap[v.heap.size] Z
   grind [qts,List.range_succ]
 have hs:=he.size;obtain⟨v,h1,U,Z⟩:=H (w'.heap.size-w.heap.size) Oo;exact hJ.ext Z U
theorem Carr.dropL(H:Carr J):∀{A Z:Dm},J (A++Z) w->J Z w
 | [],_,h=>h
 | _::A,_,h=>Carr.dropL H (A:=A) (H.drop h)
theorem Carr.pick(H:Carr J):∀(Y A Z:Dm),J (A++Z) w->(Y.map (·.1)).Nodup->(∀x∈Y,x∈A)->J (Y++Z) w
 | [],A,Z,h,_,_=>H.dropL h
 | x::Y,A,Z,h,U,hs=>by
  obtain⟨s,t,rfl⟩:=List.append_of_mem (hs x mh);rw[AF,C3]at U;have h1:J ((s++t)++x::Z) w:=H.perm h (by
   rw[Au,Au,BG];exact List.Perm.append_left s (by rw[<-List.singleton_append,<-List.singleton_append (x:=x) (l:=Z),<-Au,<-Au];exact As.append_right Z))
  have h2:=Carr.pick H Y (s++t) (x::Z) h1 U.2 (by grind);exact H.perm h2 Bm
theorem Carr.call(Z:Carr J){X:Dm}(h:J X w)(H:Mem w w' Y):J (Y++X) w':=by
 refine Z.pick Y _ X (Z.since h H.ext) H.nodup λx U=>?_;have h1:=(H.own x U).1;have h2:=(H.own x U).2;have h3:=H.lt (b:=x.1) (o:=x.2) U;rw[qts,List.mem_reverse];refine AG.2 ⟨x.1-w.heap.size,(by grind),?_⟩
 simp_all
def RowX(e:Dg)(H:Nat)(v:Di)(n:Nat)(xs:Dn)(Y:Dm):Prop:=
 xs.length=n*H/\((v=.slice none 0 0/\n=0/\Y=[])\/∃g U cur,v=.slice (some ⟨g,0,none⟩) n U/\Y=[(g,.cells cur e)]/\n<=U/\U<=maxLen/\cur.size=U*H/\cur.toList.take (n*H)=xs)
theorem RowX.nil(e:Dg)(H:Nat):RowX e H (.slice none 0 0) 0 [] []:=⟨by rw[Nat.zero_mul];rfl,.inl ⟨rfl,rfl,rfl⟩⟩
theorem RowX.own{H n:Nat}{v:Di}(h:RowX e H v n xs Y)(hY:∀x∈Y,w.heap[x.1]?=some x.2):w.ownsRow 0 e H v n xs:=by
 obtain⟨Z,⟨rfl,h2,_⟩|⟨g,U,cur,rfl,rfl,r⟩⟩:=h
 ·exact⟨Z,.inl ⟨rfl,h2⟩⟩
 ·exact⟨Z,.inr ⟨g,U,cur,rfl,An _,hY _ (Ac.2 rfl),r⟩⟩
theorem RowX.of{H n:Nat}{v:Di}(h:w.ownsRow base e H v n xs):∃Y,RowX e H v n xs Y/\(Y.map (·.1))=v.ownBlock.toList/\∀x∈Y,base<=x.1/\w.heap[x.1]?=some x.2:=by
 obtain⟨Z,⟨rfl,h2⟩|⟨g,U,cur,rfl,h2,h3,r⟩⟩:=h
 ·exact⟨[],⟨Z,.inl ⟨rfl,h2,rfl⟩⟩,rfl,Js⟩
 ·exact⟨[(g,.cells cur e)],⟨Z,.inr ⟨g,U,cur,rfl,rfl,r⟩⟩,rfl,(by grind)⟩
theorem RowX.slice{H n:Nat}{v:Di}(h:RowX e H v n xs Y):∃A c,v=.slice A n c:=by
 obtain⟨_,⟨rfl,rfl,_⟩|⟨g,U,cur,rfl,_⟩⟩:=h<;>exact⟨_,_,rfl⟩
theorem AppV.carr{e H:Nat}{v:Di}{n:Nat}{t:Dg}{i:TypeInfo}{X:Dm}(hJ:Carr J)(h:J (Y++X) w)(hR:RowX e H v n xs Y)(ht:P.underlying t=some (.slice e))(hi:P.info? e=some i)(hz:i.zero=some z)(ab:i.size=H)(ad:z.cells.size=H)(ae:0<H)(hl:news.length=m*H)(hA:news≠[]->∃b off,A=some ⟨b,off,none⟩/\CellsAt w b off news)(h1:∀u∈news,u.oneCell'=true)(hb:(n+m)*i.bytes<=140737488355328)(af:n+m<=140737488355328)(hk:∀A' c' Y' w',RowX e H (.slice A' (n+m) c') (n+m) (xs++news) Y'->J (Y'++X) w'->K (.slice A' (n+m) c') w'):AppV P #[t,t] ty v (.slice A m c) w K:=by
 refine AppV.own ht hi hz ab ad ae (hR.own λx hx=>hJ.get h (by grind)) Oo hl hA h1 hb af λv' w' ho hg U=>?_;obtain⟨Y',ac,Z,aa⟩:=RowX.of ho;obtain⟨A',c',rfl⟩:=ac.slice;refine hk A' c' Y' w' ac ?_;obtain⟨_,⟨rfl,rfl,rfl⟩|⟨g,ah,cur,rfl,rfl,ai,aj,ak,al⟩⟩:=hR
 ·have he:Ext w w':=⟨hg.os,hg.tape,hg.output,hg.size,λk hk=>hg.block k hk (λe=>by cases e)⟩
  rcases U with U|U
  ·rw[U]at Z;have:Y'=[]:=List.map_eq_nil_iff.1 Z;subst this;exact hJ.ext h he
  ·refine hJ.call h ⟨he,λx hx=>⟨?_,(aa x hx).2⟩,by simp_all⟩
   grind [List.mem_map_of_mem]
 ·have am:=hJ.get h mh;have an:g<w.heap.size:=by
   grind
  have hs:=hg.size;have ao:w'.heap[g]?=some w'.heap[g]:=(by simp)
  have h2:=hJ.set w'.heap[g] h;have he:Ext (setO w g w'.heap[g]) w':=by
   refine⟨hg.os,hg.tape,hg.output,by grind [setO],λk hk=>?_⟩;have ag:k<w.heap.size:=by grind [setO]
   by_cases e:k=g
   ·grind [qjk]
   ·rw[qem e];exact hg.block k ag (by grind [Value.ownBlock])
  rcases U with U|U
  ·have h3:=hJ.ext h2 he;have e1:Y'=[(g,w'.heap[g])]:=by
    rw[U]at Z
    match Y',Z,aa with
    | [x],Z,aa=>
     grind [Value.ownBlock]
   simp_all
  ·have h4:J (Y'++(g,w'.heap[g])::X) w':=by
    refine hJ.call h2 ⟨he,λx hx=>⟨?_,(aa x hx).2⟩,by grind⟩
    grind [List.mem_map_of_mem,setO]
   exact hJ.dropM h4
theorem qqw{t:Dg}(h:w.heap[b]?=some (.cells cur t)):w.setRow b cs=setO w b (.cells cs t):=by
 have H:=qb2 (cs:=cs) h;unfold World.setRow setO at *
 congr 1
 grind
theorem StoreA.carr(H:Carr J){A:Dm}{t:Dg}{K:Dl}(h:J (A++(b,.cells cur t)::B) w)(Z:vs.length=cur.size)(h1:∀v∈vs,v.oneCell'=true)(hk:∀w',J (A++(b,.cells vs.toArray t)::B) w'->K w'):StoreA P w b 0 vs K:=by
 have U:=H.get h (Aa _ mh);have hr:=run_storeCells_at P b 0 t vs 0 cur w U (by simp[Z]) h1;refine⟨⟨_,hr,hk _ ?_⟩⟩;have e:(cur.toList.take (0+0)++vs++cur.toList.drop (0+0+vs.length)).toArray=vs.toArray:=by
  simp_all
 have e2:∀z,w.setRow b z=setO w b (.cells z t):=λz=>qqw U
 simp only[Aq,Bq,CD,Bt]at e|-;rw[e2,e];exact H.setM _ h
theorem Carr.ex{α:Type}{p:α->Prop}{J:α->Dm->Dl}(h:∀c,Carr (J c)):Carr λX w=>∃c,p c/\J c X w:=
 ⟨λ⟨c,q,k⟩ H=>⟨c,q,(h c).ext k H⟩,(by grind [get]),(by grind [new]),(by grind [set]),λ⟨c,q,k⟩=>⟨c,q,(h c).drop k⟩,λ⟨c,q,k⟩ U=>⟨c,q,(h c).perm k U⟩⟩
theorem Carr.and(h:Carr J):Carr λX w=>p/\J X w:=
 ⟨λ⟨q,k⟩ H=>⟨q,h.ext k H⟩,λ⟨_,k⟩ U=>h.get k U,λo ⟨q,k⟩=>⟨q,h.new o k⟩,λZ ⟨q,k⟩=>⟨q,h.set Z k⟩,λ⟨q,k⟩=>⟨q,h.drop k⟩,λ⟨q,k⟩ hp=>⟨q,h.perm k hp⟩⟩
variable {P:Df} {n:Nat} {r:Option Nat}
end
end V
open Go.RowKit V
set_option maxHeartbeats 8000000
set_option maxRecDepth 100000
def TmaΦ(b:Nat)(l:LB)(b1 _:Nat)(w:Dd):Prop:=TreeAt w b l/\w.cell? ⟨b1,0,none⟩=some (pp b)
def q61(P:Nat->Int)(b2:Nat)(w:Dd):Prop:=CellsAt w b2 0 [ii (P 0),ii (P 1),ii (P 2),ii (P 3)]
def tmaR(l:LB)(P:Nat->Int):List (Nat×(Nat->Nat)):=(lvG (treD l) P 3 0 0 (vNum l 0) (λ_=>0,λ_=>0)).1
theorem qk3(b:Nat)(P:Nat->Int)(w:Dd):Gv Dp 127 [pp b,.agg #[ii (P 0),ii (P 1),ii (P 2),ii (P 3)]] w λr w'=>
  ∃b1 b2,r=.func (.func 206) #[] #[pp b1,pp b2]/\Mem w w' [(b2,.cells #[ii (P 0),ii (P 1),ii (P 2),ii (P 3)] 95),(b1,.cells #[pp b] 141)]:=by
 refine ze Tryz.func127 Tryz.ntmps127 ?_;refine znm (Mem.nil w) ?_;intro b1 U H;refine znm H λb2 Z H=>zw ?_;exact⟨b1,b2,rfl,H⟩
theorem qk4(b:Nat)(l:LB)(P:Nat->Int)(b1 b2:Nat)(ac:∀k,k<3->tVec l (k+1)=true->vM (qd l (k+1))<=vN (qd l (k+1)))(hP:∀k,k<4->InR .i64 (P k)):
  SeqC Dp 206 [pp b1,pp b2] ((tmaR l P).map mRow) (λw=>TmaΦ b l b1 b2 w/\q61 P b2 w):=by
 intro y I Ix w cI Z hI H hy;obtain⟨⟨hT,ad⟩,ae⟩:=hI 0 [] w H;obtain⟨PP,cp,S,cs,VV,hc,_⟩:=(hT.lv 0 Od).h;have af:=hT.n 0 Od;refine gvW Jk Tryz.func206 rfl Tryz.ntmps206 rfl (zw ?_);refine LoadV.of ad ?_;refine LoadA.cells ae rfl ?_;refine NewV.carr (cI 0) H ?_;clear H;intro wb w1 H;have H:I 0 [(wb,wkO b y P (λ_=>0,λ_=>0))] w1:=H;refine LoadV.of (hI _ _ _ H).1.2 (zw ?_);refine zJ 0 ?_;(conv=>whnf);obtain⟨PP,cp,S,cs,VV,hc,_⟩:=((hI _ _ _ H).1.1.lv 0 Od).h;refine LoadV.cellsE hc 0 (by first|rfl|(rw[lvSz];first|done|rfl)) rfl ?_;have aa:=qy0 b wb y l P ((tmaR l P).map mRow) I Ix cI Z (λk X w h=>(hI k X w h).1.1) ac hP hy 3 0 0 (vNum l 0) 0 (λ_=>0,λ_=>0) [] w1 rfl Oo af (λk _=>An _) (λt row ht=>by rw[Aq,Ar];exact Ae (Option.map mRow) ht) H;refine zcv aa ?_;clear H aa;have U:((tmaR l P).map mRow).length=(tmaR l P).length:=AC ..;rintro r w2 (⟨rfl,hJ⟩|⟨rfl,j',s',ab,hX⟩)
 ·(conv=>whnf);rw[U];rw[Aq]at hJ;exact .inl ((cI _).drop hJ)
 ·(conv=>whnf);rw[Aq]at ab;exact .inr ⟨j',by rw[U];exact ab,(Z _).drop hX⟩
structure IdxAt(w:Dd)(x:Nat)(l:LB):Prop where
 h:∃pb,w.cell? ⟨x,0,none⟩=some (pp pb)/\PackAt w pb l
theorem qsc(b:Nat)(w:Dd):Gv Dp 136 [pp b] w λr w'=>
  r=.agg #[pp b,.pointer (some ⟨b,4,none⟩),.pointer (some ⟨b,8,none⟩),.pointer (some ⟨b,12,none⟩)]/\Ext w w':=by
 refine gvW Jk Tryz.func136 rfl Tryz.ntmps136 rfl (zw ?_);refine znm (Mem.nil w) λZ w1 H=>zw ?_;refine DrawW.tail 13 Jk Jk (.inl rfl) (AnyV.free Jk ?_);(conv=>whnf);(iterate 13 (refine zd ?_));intro w2 U;have H:=H.drew.call U;(conv=>whnf);refine zS H 0 λw3 H=>zw ?_;refine qk (R:=λr w'=>r=.agg #[pp b,.pointer (some ⟨b,4,none⟩),.pointer (some ⟨b,8,none⟩),.pointer (some ⟨b,12,none⟩)]/\Ext w w') (zw ?_);refine zl H 0 ?_;exact⟨rfl,H.ext⟩
theorem qmk(q:Q4)(U:i<4){v:Di}(H:(encT (q.at i))[k]?=some v):(qe q)[4*i+k]?=some v:=by
 have Z:k<4:=(Ad.1 H).1
 match i,U,k,Z,H with
 | 0,_,0,_,H=>exact H
 | 0,_,1,_,H=>exact H
 | 0,_,2,_,H=>exact H
 | 0,_,3,_,H=>exact H
 | 1,_,0,_,H=>exact H
 | 1,_,1,_,H=>exact H
 | 1,_,2,_,H=>exact H
 | 1,_,3,_,H=>exact H
 | 2,_,0,_,H=>exact H
 | 2,_,1,_,H=>exact H
 | 2,_,2,_,H=>exact H
 | 2,_,3,_,H=>exact H
 | 3,_,0,_,H=>exact H
 | 3,_,1,_,H=>exact H
 | 3,_,2,_,H=>exact H
 | 3,_,3,_,H=>exact H
theorem qxs(p q:Q4):fitQ p q=true↔∀i,i<4->fitT (p.at i) (q.at i)=true:=by
 constructor
 ·intro h i H;simp only[fitQ,AB]at h;obtain⟨⟨⟨U,Z⟩,h2⟩,h3⟩:=h
  match i,H with
  | 0,_=>exact U
  | 1,_=>exact Z
  | 2,_=>exact h2
  | 3,_=>exact h3
 ·intro h;simp only[fitQ,AB];exact⟨⟨⟨h 0 Od,h 1 Od⟩,h 2 Od⟩,h 3 Od⟩
theorem q09(p q:Q4)(w:Dd):Gv Dp 67 [qw p,qw q] w λr w'=>r=.bool (fitQ p q)/\Ext w w':=by
 refine ze Tryz.func67 Tryz.ntmps67 ?_;refine znm (Mem.nil w) ?_;intro pb w1 H;have H:Mem w w1 [(pb,.cells (qe p).toArray 47)]:=H;(conv=>whnf);refine znm H ?_;clear H;intro U w2 H;have H:Mem w w2 [(U,.cells (qe q).toArray 47),(pb,.cells (qe p).toArray 47)]:=H;(conv=>whnf);refine zcv (qsc U w2) ?_;rintro r w3 ⟨rfl,ae⟩;have H:=H.call ae;(conv=>whnf);refine znm H λab w4 H=>zw ?_;refine zS H 0 λw5 H=>zw ?_;refine zcv (qsc pb w5) ?_;rintro r w6 ⟨rfl,af⟩;have H:=H.call af;(conv=>whnf);obtain⟨L,eL⟩:∃L:Dm,L=[(ab,.cells #[pp U,.pointer (some ⟨U,4,none⟩),.pointer (some ⟨U,8,none⟩),.pointer (some ⟨U,12,none⟩)] 68),(U,.cells (qe q).toArray 47),(pb,.cells (qe p).toArray 47)]:=⟨_,rfl⟩
 have H:Mem w w6 L:=by rw[eL];exact H
 refine qn (λi:Nat=>[(5,pp ab),(9,.agg #[pp pb,.pointer (some ⟨pb,4,none⟩),.pointer (some ⟨pb,8,none⟩),.pointer (some ⟨pb,12,none⟩)]),(10,ii i)])
  (λi w'=>Mem w w' L/\i<=4/\∀j,j<i->fitT (p.at j) (q.at j)=true) (λi=>4-i) 0 fq ⟨H,An _,λj hj=>by omega⟩ ?_
 clear H;rintro i w7 aj ⟨H,hi,hf⟩;rw[eL]at H;(conv=>whnf);refine zC (λ_=>zu ?_) (λ_=>zu ?_)
 case' refine_2=>
  exact⟨Ae Value.bool ((qxs p q).2 λj hj=>hf j Oo).symm,H.ext⟩
 have Z:i<4:=by omega
 have tp:tsz Dp 67=1:=by kernel_rfl
 have aa:∀b:Nat,[pp b,.pointer (some ⟨b,4,none⟩),.pointer (some ⟨b,8,none⟩),.pointer (some ⟨b,12,none⟩)][i]?=some (.pointer (some ⟨b,4*i,none⟩)):=λb=>by
  match i,Z with
  | 0,_=>rfl
  | 1,_=>rfl
  | 2,_=>rfl
  | 3,_=>rfl
 refine⟨⟨.pointer (some ⟨pb,4*i,none⟩),by rw[tp,Bw];exact aa pb,?_⟩⟩;have ac:CellsAt w7 pb (4*i) (encT (p.at i)):=λk v hv=>by
  rw[qa (H.get (zmc (zmc (Ac.2 rfl)))),Az];exact qmk p Z hv
 have ag:CellsAt w7 U (4*i) (encT (q.at i)):=λk v hv=>by
  rw[qa (H.get (zmc mh)),Az];exact qmk q Z hv
 have ah:w7.cell? ⟨ab,i,none⟩=some (.pointer (some ⟨U,4*i,none⟩)):=by
  rw[qa (H.get mh),Az];exact aa U
 have ai:w7.cell? ⟨pb,4*i+0,none⟩=some (ii (p.at i).kind):=ac 0 _ rfl;(conv=>whnf);refine zy ?_;refine zv ?_;refine LoadV.of ai (zw ?_)
 rcases BW ((p.at i).kind=4)with h4|h4
 case inl=>
  refine zv ?_;refine⟨i+1,fq,⟨by rw[eL];exact H.drew,by omega,λj hj=>?_⟩,by omega⟩
  by_cases e:j=i
  ·subst e;rw[fitT,h4];rfl
  ·exact hf j Oo
 refine zv ?_;refine LoadA.cells (vs:=encT (p.at i)) ac rfl (zu ?_);refine LoadV.of (v:=.pointer (some ⟨U,4*i,none⟩)) (by rw[tp,Aq,Bw];exact ah) (zu ?_);refine LoadA.cells (vs:=encT (q.at i)) ag rfl (zu ?_);refine RunV.eqTerm (a:=p.at i) (b:=q.at i) (.inr rfl) ?_;cases ad:qx (p.at i) (q.at i)
 ·refine zu ?_;refine⟨?_,H.ext.drew⟩;have e:fitQ p q=false:=CB.2 λg=>by
   have:=(qxs p q).1 g i Z;rw[fitT,ad,AZ h4]at this;cases this
  rw[e]
 ·refine zu ?_;refine⟨i+1,fq,⟨by rw[eL];exact H.drew,by omega,λj hj=>?_⟩,by omega⟩
  by_cases e:j=i
  ·subst e;rw[fitT,ad,Db]
  ·exact hf j Oo
def idP(T:List TM)(p:Q4):Nat->Int:=λk=>idT T (gat p k)
def KnQ(T:List TM)(p:Q4):Prop:=∀k,k<4->KnT T (gat p k)
open Classical in
noncomputable def qj5(T:List TM)(p:Q4):Di:=if KnQ T p then .tuple #[.agg #[ii (idP T p 0),ii (idP T p 1),ii (idP T p 2),ii (idP T p 3)],.bool true]else .tuple #[.agg zq,.bool false]
def idC(F:Nat->Int):Dn:=[ii (F 0),ii (F 1),ii (F 2),ii (F 3)]
theorem qx9(F:Nat->Int)(H:i<4)(x:Int):(idC F).toArray.setIfInBounds i (ii x)=(idC λj=>if j=i then x else F j).toArray:=by
 match i,H with
 | 0,_=>rfl
 | 1,_=>rfl
 | 2,_=>rfl
 | 3,_=>rfl
theorem qtr(T:List TM)(qs:List Q4)(h:EncOk T qs)(x:Nat)(p:Q4)(hp:qap p)(w:Dd)(hX:IdxAt w x (encP T qs))(hM:MaxLenAt w)(hT:CellsAt w 4 0 qa3):
  Gv Dp 39 [pp x,qw p] w λr w'=>r=qj5 T p/\Ext w w':=by
 refine ze Tryz.func39 Tryz.ntmps39 ?_;refine znm (Mem.nil w) ?_;intro pb w1 H;have H:Mem w w1 [(pb,.cells (qe p).toArray 47)]:=H;(conv=>whnf);refine znm H λrb w2 H=>zw ?_;refine znm H ?_;clear H;intro ob w3 H;have H:Mem w w3 [(ob,.cells (idC λ_=>0).toArray 95),(rb,.cells zq 95),(pb,.cells (qe p).toArray 47)]:=H;(conv=>whnf);have U:∀w',Ext w3 w'->∀i,i<4->CellsAt w' pb (4*i) (encT (p.at i)):=λw' he i hi k v hv=>by
  rw[qa (he.get (H.get (zmc (zmc (Ac.2 rfl))))),Az];exact qmk p hi hv
 refine LoadA.cells (vs:=encT p.g) (U w3 xr 3 Od) rfl (zw ?_);refine LoadA.cells (vs:=encT p.s) (U w3 xr 0 Od) rfl (zw ?_);refine LoadA.cells (vs:=encT p.p) (U w3 xr 1 Od) rfl (zw ?_);refine LoadA.cells (vs:=encT p.o) (U w3 xr 2 Od) rfl (zw ?_);refine qn (λs:Nat×(Nat->Int)=>[(0,pp x),(4,pp rb),(6,pp ob),(19,.agg (encT p.g++encT p.s++encT p.p++encT p.o).toArray),(20,ii s.1)])
  (λs w'=>s.1<=4/\(∀j,j<s.1->s.2 j=idP T p j/\KnT T (gat p j))/\Mem w w' [(ob,.cells (idC s.2).toArray 95),(rb,.cells zq 95),(pb,.cells (qe p).toArray 47)]) (λs=>4-s.1) (0,λ_=>0) fq ⟨An _,λj hj=>by omega,H⟩ ?_
 clear U H;rintro⟨i,F⟩ w4 ai ⟨hi,hF,H⟩;dsimp only at hi hF H|-;(conv=>whnf);refine zC (λ_=>zu ?_) (λ_=>zu ?_)
 case' refine_2=>
  obtain rfl:i=4:=by omega
  have ae:KnQ T p:=λj hj=>(hF j hj).2
  have e:qj5 T p=.tuple #[.agg (idC F).toArray,.bool true]:=by
   rw[qj5,Af ae,<-(hF 0 Od).1,<-(hF 1 Od).1,<-(hF 2 Od).1,<-(hF 3 Od).1];rfl
  refine zl H 0 ?_;refine StoreA.all H (i:=1) rfl rfl (by simp[Value.oneCell']) λw5 H=>zw ?_;refine qk (R:=λr w'=>r=qj5 T p/\Ext w w') (zw ?_);refine zl H 1 ?_;exact⟨by rw[e];rfl,H.ext⟩
 have Z:i<4:=by omega
 have t4:tsz Dp 45=4:=by kernel_rfl
 have t1:tsz Dp 3=1:=by kernel_rfl
 refine⟨⟨encT (gat p i),?_,?_⟩⟩
 ·rw[t4]
  match i,Z with
  | 0,_=>rfl
  | 1,_=>rfl
  | 2,_=>rfl
  | 3,_=>rfl
 obtain⟨t,et⟩:∃t,t=gat p i:=⟨_,rfl⟩
 have af:TermOk t:=by
  rw[et]
  match i,Z with
  | 0,_=>exact hp 3
  | 1,_=>exact hp 0
  | 2,_=>exact hp 1
  | 3,_=>exact hp 2
 rw[<-et];(conv=>whnf);refine znm H λtb w5 H=>zw ?_;refine StoreA.all (vs:=encT t) H (i:=0) rfl rfl (qab t) λw6 H=>zw ?_;refine zr H 0 ?_
 rcases BW (t.kind=4)with h4|h4
 case inl=>
  refine zv ?_;refine StoreV.mem H (i:=1) rfl (by rw[t1];show 0+i*1<4;omega) rfl ?_;clear H;intro w7 H;have H:Mem w w7 [(tb,.cells (encT t).toArray 45),(ob,.cells ((idC F).toArray.setIfInBounds (0+i*tsz Dp 3) (ii (-1))) 95),(rb,.cells zq 95),(pb,.cells (qe p).toArray 47)]:=H;rw[t1,Aq,Bw,qx9 F Z]at H;refine zu ?_;refine⟨(i+1,λj=>if j=i then -1 else F j),fq,⟨by dsimp only;omega,λj hj=>?_,H.sub (Br ..)⟩,by dsimp only;omega⟩;dsimp only at hj|-
  by_cases e:j=i
  ·subst e;rw[Af rfl,idP,<-et,idT,Af h4];exact⟨rfl,.inl h4⟩
  ·rw[Ab e];exact hF j Oo
 refine zv ?_;obtain⟨vp,ag,ah⟩:=hX.h;refine DrawV.free Jk Jk (zw ?_);(iterate 3 (refine zd ?_));refine zf ?_ (by intro wd hd;(conv=>whnf);refine LoadV.of (Ext.cell (Ext.trans (Ext.drew xr) hd) (H.ext.cell ag)) ?_;(conv=>whnf);exact xq);apply StepD.of (λv w=>∃vb,v=pp vb/\VocAt w vb (vocB T)) (λv w w' ⟨vb,h1,h2⟩ he=>⟨vb,h1,h2.ext he⟩)
 ·intro wd hd;(conv=>whnf);refine zcv (qqi vp (encP T qs) wd (ah.ext (H.ext.trans ((Ext.refl w6).drew.trans hd)))) ?_;rintro r w7 ⟨⟨vb,rfl,ac⟩,rfl⟩;rw[h.v]at ac;exact⟨xr,vb,rfl,ac⟩
 (conv=>whnf);apply zsd (qr t)
 ·intro wd hd;conv=>whnf
  (repeat(rintro _ ⟨_,rfl,_⟩;(conv=>whnf)))
  refine LoadA.mem (Mem.call (Mem.drew H) hd) (i:=0) rfl rfl (zw ?_);exact xq
 (conv=>whnf);apply zsd (idR T t)
 ·intro wd hd;conv=>whnf
  (repeat(rintro _ ⟨_,rfl,_⟩;(conv=>whnf)))
  have ad:=H.ext.trans ((Ext.refl w6).drew.trans hd);refine zcv (qt2 T h.voc h.set.rise h.kinds h.term _ t af wd Oa (hM.ext ad) (CellsAt.ext hT ad)) ?_;rintro r w7 ⟨rfl,aa⟩;exact⟨aa,rfl⟩
 have hid:(KnT T (gat p i)/\idR T t=.tuple #[ii (idP T p i),.bool true])\/(¬KnT T (gat p i)/\idR T t=.tuple #[ii 0,.bool false]):=by
  rw[<-et]
  rcases BW (t∈T\/t=zTM)with g|g
  ·exact .inl ⟨.inr g,by rw[idR,Af g,idP,<-et,idT,Ab h4]⟩
  ·exact .inr ⟨λk=>g (k.resolve_left h4),by rw[idR,Ab g]⟩
 rcases hid with⟨hk,ab⟩|⟨hk,ab⟩
 case inr=>
  rw[ab];(conv=>whnf);(iterate 5 (refine zd ?_));intro w7 aa;have H:=H.drew.call aa;conv=>whnf
  (repeat(rintro _ ⟨_,rfl,_⟩;(conv=>whnf)))
  refine zv ?_;refine StoreA.all H (i:=2) rfl rfl Od λw8 H=>zw ?_;refine qk (R:=λr w'=>r=qj5 T p/\Ext w w') (zw ?_);refine zl H 2 ?_;exact⟨by rw[qj5,Ab (λg=>hk (g i Z))];rfl,H.ext⟩
 obtain⟨z,ez⟩:∃z,z=idP T p i:=⟨_,rfl⟩
 rw[ab,<-ez];(conv=>whnf);(iterate 5 (refine zd ?_));intro w7 aa;have H:=H.drew.call aa;conv=>whnf
 (repeat(rintro _ ⟨_,rfl,_⟩;(conv=>whnf)))
 refine zv ?_;refine StoreV.mem H (i:=1) rfl (by rw[t1];show 0+i*1<4;omega) rfl ?_;clear H;intro w8 H;have H:Mem w w8 [(tb,.cells (encT t).toArray 45),(ob,.cells ((idC F).toArray.setIfInBounds (0+i*tsz Dp 3) (ii z)) 95),(rb,.cells zq 95),(pb,.cells (qe p).toArray 47)]:=H;rw[t1,Aq,Bw,qx9 F Z]at H;refine zu ?_;refine⟨(i+1,λj=>if j=i then z else F j),fq,⟨by dsimp only;omega,λj hj=>?_,H.sub (Br ..)⟩,by dsimp only;omega⟩;dsimp only at hj|-
 by_cases e:j=i
 ·subst e;rw[Af rfl,ez];exact⟨rfl,hk⟩
 ·rw[Ab e];exact hF j Oo
section
variable {P:Nat->Int} {Q:Nat->Nat->Nat} {n:Nat}
theorem qrn{i:Nat}:∀{m k:Nat},(∀j,k<=j->j<k+m->P j<0)->agF P Q i k m=true
 | 0,_,_=>rfl
 | m+1,k,h=>by
  rw[agF,qrn (m:=m) (k:=k+1) λj H U=>h j Oo Oo,agB,AI (h k znr Oo)];rfl
theorem q3o(H:k<=4)(h:∀j,k<=j->j<4->P j<0):maT P Q k a b=(List.range b).drop a:=by
 grind [maT,List.filter_eq_self,qrn]
theorem qhq(H:k<=4)(h:∀j,k<=j->j<4->P j<0):(maT P Q k a b).length=b-a:=by
 grind [q3o]
theorem qy8{e:Nat}(H:k<4)(U:P k=((nuT Q k n).getD e 0:Nat))(h:∀j,k+1<=j->j<4->P j<0):(lvM P Q n k e (e+1)).length=bndT Q k (e+1) n-bndT Q k e n:=by
 grind [lvM,qfw,agB,qhq]
def staT(Q:Nat->Nat->Nat)(n:Nat):Nat->Nat->Nat->Nat
 | 0,_,i=>min i n
 | f+1,k,i=>if leT Q k n<=i then n else staT Q n f (k+1) (chT Q n k i)
theorem TOk.sta(h:TOk Q n):∀{f k:Nat} (i:Nat),f+k=3->staT Q n f k i=bndT Q k i n
 | 0,k,i,H=>by
  obtain rfl:k=3:=by omega
  rw[staT]
  rcases Nat.le_total i n with g|g
  ·rw[h.bnd3 g,Bi g]
  ·rw[qlg 3 (by rw[h.all Oo];exact g),Nat.min_eq_right g]
 | f+1,k,i,H=>by
  rw[staT]
  split
  ·rename_i g
   rw[qlg k g]
  ·rw[TOk.sta h (f:=f) (k:=k+1) _ Oo,qkb]
end
def staD(T:LvD)(N:Nat):Nat->Nat->Nat->Nat
 | 0,_,i=>min i N
 | f+1,k,i=>if T.N k<=i then N else staD T N f (k+1) (T.ch k i).1
def finD(T:LvD)(N:Nat)(F:Nat->Int):Nat->Nat->Nat->Nat->Nat×Bool
 | m,k,U,H=>
  if min H (T.N k)<=T.sr k (min U (min H (T.N k))) (min H (T.N k)) (F k)\/(T.nu k (T.sr k (min U (min H (T.N k))) (min H (T.N k)) (F k)):Int)≠F k then
   (staD T N (3-k) k (T.sr k (min U (min H (T.N k))) (min H (T.N k)) (F k)),false)
  else match m with
   | 0=>(T.sr k (min U (min H (T.N k))) (min H (T.N k)) (F k),true)
   | m+1=>finD T N F m (k+1) (T.ch k (T.sr k (min U (min H (T.N k))) (min H (T.N k)) (F k))).1 (T.ch k (T.sr k (min U (min H (T.N k))) (min H (T.N k)) (F k))).2
def cntD(T:LvD)(N one w:Nat)(P:Nat->Int):Nat->Nat->Nat->Nat->Nat
 | 0,_,_,_=>N
 | m+1,j,U,H=>
  if w<=j then N else if P j<0 then one else
  if min H (T.N j)<=T.sr j (min U (min H (T.N j))) (min H (T.N j)) (P j)\/(T.nu j (T.sr j (min U (min H (T.N j))) (min H (T.N j)) (P j)):Int)≠P j then 0 else
  if j=3 then 1 else if j+1=w then staD T N (3-j) j (T.sr j (min U (min H (T.N j))) (min H (T.N j)) (P j)+1)-staD T N (3-j) j (T.sr j (min U (min H (T.N j))) (min H (T.N j)) (P j))
  else cntD T N one w P m (j+1) (T.ch j (T.sr j (min U (min H (T.N j))) (min H (T.N j)) (P j))).1 (T.ch j (T.sr j (min U (min H (T.N j))) (min H (T.N j)) (P j))).2
section
variable {P:Nat->Int} {Q:Nat->Nat->Nat} {n:Nat}
theorem qq1{T:LvD}(H:CanD T Q n):∀{f k i:Nat},f+k=3->staD T n f k i=staT Q n f k i
 | 0,k,i,_=>rfl
 | f+1,k,i,U=>by
  rw[staD,staT,H.N k Oo]
  split
  ·rfl
  ·rename_i g
   rw[H.ch k i Oo Oo,qq1 H Oo]
theorem q0y{T:LvD}(Z:CanD T Q n){x:Nat}(U:k<4)(H:a<=b)(hb:b<=leT Q k n)(hr:∀i j,a<=i->i<j->j<b->(nuT Q k n).getD i 0<(nuT Q k n).getD j 0)(hx:P k=(x:Int)):
  (a<=T.sr k a b (P k)/\T.sr k a b (P k)<=b)/\(T.sr k a b (P k)<b->T.nu k (T.sr k a b (P k))=(nuT Q k n).getD (T.sr k a b (P k)) 0)/\
  lvM P Q n k a b=if T.sr k a b (P k)<b/\(nuT Q k n).getD (T.sr k a b (P k)) 0=x then lvM P Q n k (T.sr k a b (P k)) (T.sr k a b (P k)+1)else[]:=by
 have aa:∀e,e<b->T.nu k e=(nuT Q k n).getD e 0:=λe he=>Z.nu k e U Oo
 obtain⟨s1,s2⟩:=T.sr_le k (P k) H;obtain⟨s3,s4⟩:=T.sr_spec k (P k) H (by grind);exact⟨⟨s1,s2⟩,(by grind),qsv (P:=P) (n:=n) U hx hr s1 s2 (by grind) (by grind)⟩
def WinT(Q:Nat->Nat->Nat)(n k a b:Nat):Prop:=a<=b/\b<=leT Q k n/\∀i j,a<=i->i<j->j<b->(nuT Q k n).getD i 0<(nuT Q k n).getD j 0
theorem TOk.winT(h:TOk Q n):WinT Q n 0 0 (leT Q 0 n):=⟨An _,Ao _,λ_ _ _ H U=>h.tops H U⟩
theorem TOk.winC(h:TOk Q n){p:Nat}(H:k+1<4):WinT Q n (k+1) (chT Q n k p) (chT Q n k (p+1)):=⟨qh8 k n Oo,qwz k n _,λ_ _ U Z h3=>h.sibs H U Z h3⟩
theorem q7w(h:TOk Q n){T:LvD}(hT:CanD T Q n)(hP:∀k,k<4->0<=P k):∀{m k a b:Nat},m+k=3->WinT Q n k a b->
  (∃i,finD T n P m k a b=(i,true)/\lvM P Q n k a b=[i]/\i<n)\/((finD T n P m k a b).2=false/\lvM P Q n k a b=[]):=by
 intro m
 induction m with
 | zero=>
  intro k a b hk hw;obtain rfl:k=3:=by omega
  obtain⟨H,hb,hr⟩:=hw;obtain⟨x,Z⟩:∃x:Nat,P 3=(x:Int):=⟨(P 3).toNat,by grind⟩
  obtain⟨⟨s1,s2⟩,s3,s4⟩:=q0y hT Od H hb hr Z;rw[finD,hT.N 3 Od,Bi hb,Bi H]
  by_cases U:T.sr 3 a b (P 3)<b/\(nuT Q 3 n).getD (T.sr 3 a b (P 3)) 0=x
  ·have hn:=s3 U.1;have aa:T.sr 3 a b (P 3)<n:=by have:=h.all znr;omega
   rw[Ab (by rintro(g|g);exact absurd U.1 Oo;exact g (by rw[hn,U.2,Z]))];refine .inl ⟨_,rfl,?_,aa⟩;rw[s4,Af U,h.leaf aa,Af (by rw[agB,U.2,Z,AI (p:=(x:Int)=(x:Int)) rfl,Db])]
  grind
 | succ m ih=>
  intro k a b hk hw;obtain⟨H,hb,hr⟩:=hw;obtain⟨x,Z⟩:∃x:Nat,P k=(x:Int):=⟨(P k).toNat,by grind⟩
  obtain⟨⟨s1,s2⟩,s3,s4⟩:=q0y hT Oo H hb hr Z;rw[finD,hT.N k Oo,Bi hb,Bi H]
  by_cases U:T.sr k a b (P k)<b/\(nuT Q k n).getD (T.sr k a b (P k)) 0=x
  ·have hn:=s3 U.1;rw[Ab (by rintro(g|g);exact absurd U.1 Oo;exact g (by rw[hn,U.2,Z])),s4,Af U,qp6 Oo,Af (by rw[agB,U.2,Z,AI (p:=(x:Int)=(x:Int)) rfl,Db])];rw[hT.ch k _ Oo Oo];exact ih Oo (h.winC Oo)
  grind
theorem q7j(h:TOk Q n){T:LvD}(U:CanD T Q n){w one:Nat}(ad:w<=4)(hP:∀j,w<=j->j<4->P j<0):∀{m j a b:Nat},j<w->m+j=w->WinT Q n j a b->(lvM P Q n j a b).length=one->cntD T n one w P m j a b=one:=by
 intro m
 induction m with
 | zero=>omega
 | succ m ih=>
  intro j a b hj hm hw ho;obtain⟨Z,hb,hr⟩:=hw;rw[cntD,Ab Oo]
  split
  ·rfl
  rename_i ac
  obtain⟨x,hx⟩:∃x:Nat,P j=(x:Int):=⟨(P j).toNat,by omega⟩
  obtain⟨⟨s1,s2⟩,s3,s4⟩:=q0y U Oo Z hb hr hx;rw[U.N j Oo,Bi hb,Bi Z]
  by_cases hc:T.sr j a b (P j)<b/\(nuT Q j n).getD (T.sr j a b (P j)) 0=x
  ·have hn:=s3 hc.1;rw[s4,Af hc]at ho;have aa:agB P j ((nuT Q j n).getD (T.sr j a b (P j)) 0)=true:=by grind [agB]
   rw[Ab (by rintro(g|g);exact absurd hc.1 Oo;exact g (by rw[hn,hc.2,hx]))]
   by_cases h3:j=3
   ·subst h3;have ab:T.sr 3 a b (P 3)<n:=by have:=h.all znr;omega
    rw[Af rfl,<-ho,h.leaf ab,Af aa];rfl
   ·rw[Ab h3]
    by_cases H:j+1=w
    ·rw[Af H,qq1 U Oo,qq1 U Oo,h.sta _ Oo,h.sta _ Oo,<-ho]
     grind [qy8]
    ·rw[Ab H,U.ch j _ Oo Oo];refine ih Oo Oo (h.winC Oo) ?_
     grind [qp6]
  grind
end
theorem TreeAt.nn(h:TreeAt w b l):∀k,vNum l k<=1048576\/4<=k:=λk=>by
 rcases AM k 4 with g|g
 ·exact .inl (h.n k g)
 omega
theorem qki(F:Nat->Int)(H:k<4):(idC F).toArray[k]?=some (ii (F k)):=by
 match k,H with
 | 0,_=>rfl
 | 1,_=>rfl
 | 2,_=>rfl
 | 3,_=>rfl
def VmOk(l:LB):Prop:=∀k,k<3->tVec l (k+1)=true->vM (qd l (k+1))<=vN (qd l (k+1))
theorem qeo(b:Nat)(l:LB)(k i:Nat)(w:Dd)(h:TreeAt w b l)(Z:VmOk l)(hk:k<=3)(hi:i<=1048576):
  Gv Dp 130 [pp b,ii k,ii i] w λr w'=>r=ii (staD (treD l) (vNum l 3) (3-k) k i:Nat)/\Ext w w':=by
 have t8:tsz Dp 244=8:=by kernel_rfl
 obtain⟨R,H⟩:∃R:Nat,R=staD (treD l) (vNum l 3) (3-k) k i:=⟨_,rfl⟩
 rw[<-H];refine ze Tryz.func130 Tryz.ntmps130 ?_;refine qn (λx:Nat×Nat=>[(0,pp b),(1,ii x.1),(2,ii x.2)]) (λx w'=>x.1<=3/\x.2<=1048576/\R=staD (treD l) (vNum l 3) (3-x.1) x.1 x.2/\Ext w w') (λx=>3-x.1) (k,i) fq ⟨hk,hi,H,Ext.refl w⟩ ?_;clear hk hi H;rintro⟨k,i⟩ w1 af ⟨hk,hi,H,U⟩;dsimp only at hk hi H U|-;have hn:=h.n 3 Od
 rcases AM k 3 with ab|ab
 case inr=>
  obtain rfl:k=3:=by omega
  refine zu ?_;refine zcv (qgb b l w1 (h.ext U)) ?_;rintro r w2 ⟨rfl,rfl⟩;(conv=>whnf);refine V.Fall.min2 rfl rfl rfl λm hm=>?_;(conv=>whnf);refine⟨?_,U⟩;rw[H,hm];show ii (min (i:Int) (vNum l 3:Int))=ii ((min i (vNum l 3):Nat):Int)
  grind
 obtain⟨PP,cp,S,cs,VV,hc,_⟩:=((h.ext U).lv k Oo).h;have ag:=h.n k Oo;have aa:3-k=(3-(k+1))+1:=by omega
 rw[aa,staD]at H;have eN:(treD l).N k=vNum l k:=rfl;rw[eN]at H;have ac:(treD l).ch k i=chB l k i:=rfl;rw[ac]at H;refine zu ?_;refine LoadV.cellsE hc 0 (by grind) rfl (zw ?_);refine zC (λ_=>zw ?_) (λ_=>zw ?_)
 case refine_1=>
  rw[Af Oo]at H;refine zcv (qgb b l w1 (h.ext U)) ?_;rintro r w2 ⟨rfl,rfl⟩;conv=>whnf
  simp_all
 rw[Ab Oo]at H;refine zcv (qch b l k i w1 (h.ext U) Oo hi (Z k Oo)) ?_;rintro r w2 ⟨rfl,ad⟩;have ae:=qr0 (i:=i) h.nn Oo (Z k Oo);refine zu ?_;exact⟨(k+1,(chB l k i).1),⟨rfl,Ae (Value.int .i64) Oo,rfl,trivial⟩,⟨by omega,ae.1,H,U.trans ad⟩,by omega⟩
def tfin(l:LB)(F:Nat->Int):Nat×Bool:=finD (treD l) (vNum l 3) F 3 0 0 (vNum l 0)
theorem q08(b:Nat)(l:LB)(F:Nat->Int)(w:Dd)(h:TreeAt w b l)(ac:VmOk l):
  Gv Dp 75 [pp b,.agg #[ii (F 0),ii (F 1),ii (F 2),ii (F 3)]] w λr w'=>r=.tuple #[ii (tfin l F).1,.bool (tfin l F).2]/\Ext w w':=by
 have t8:tsz Dp 244=8:=by kernel_rfl
 have t1:tsz Dp 3=1:=by kernel_rfl
 obtain⟨R,Z⟩:∃R:Nat×Bool,R=tfin l F:=⟨_,rfl⟩
 rw[<-Z];rw[tfin]at Z;refine ze Tryz.func75 Tryz.ntmps75 ?_;refine znm (Mem.nil w) ?_;intro qb w1 U;have U:Mem w w1 [(qb,.cells (idC F).toArray 95)]:=U;(conv=>whnf);refine DrawV.free Jk Jk (zw ?_);(iterate 3 (refine zd ?_));refine zf ?_ (by intro wd hd;(conv=>whnf);refine zJ 0 ?_;(conv=>whnf);exact xq);refine zd ?_;refine zsd (ii (vNum l 0:Nat)) (λwd hd=>zw ?_) (zw ?_)
 ·obtain⟨PP,cp,S,cs,VV,hc,_⟩:=((h.ext U.ext).lv 0 Oo).h;refine LoadV.cellsE (hc.ext (Ext.trans (Ext.drew xr) hd)) 0 Js rfl (zw ?_);exact xq
 refine zd ?_;refine zd ?_;intro w2 an;replace U:=U.drew.call an;(conv=>whnf);refine qn (λx:Nat×Nat×Nat=>[(0,pp b),(3,pp qb),(6,ii x.2.1),(7,ii x.2.2),(17,ii x.1)])
  (λx w'=>x.1<=3/\x.2.1<=1048576/\x.2.2<=1048576/\R=finD (treD l) (vNum l 3) F (3-x.1) x.1 x.2.1 x.2.2/\Mem w w' [(qb,.cells (idC F).toArray 95)]) (λx=>3-x.1) (0,0,vNum l 0)
  fq ⟨An _,An _,h.n 0 Od,Z,U⟩ ?_
 clear U Z;rintro⟨k,lo,hi⟩ w3 aw ⟨hk,ao,aq,Z,U⟩;dsimp only at hk ao aq Z U|-;have aa:k<4:=by omega
 have ax:=h.n k aa;have ai:=h.wd k aa;obtain⟨PP,cp,S,cs,VV,hc,aj,_⟩:=((h.ext U.ext).lv k aa).h;obtain⟨H,eH⟩:∃H,H=min hi (vNum l k):=⟨_,rfl⟩
 obtain⟨L,eL⟩:∃L,L=min lo H:=⟨_,rfl⟩
 have eN:(treD l).N k=vNum l k:=rfl;have ad:0+0+k*tsz Dp 244=8*k:=by rw[t8];omega
 refine zu ?_;refine LoadV.cellsE hc 0 Oo rfl (zw ?_);refine V.Fall.min2 rfl rfl rfl λm ay=>?_;obtain rfl:m=(H:Int):=by omega
 (conv=>whnf);refine V.Fall.min2 rfl rfl rfl λm az=>?_;obtain rfl:m=(L:Int):=by omega
 refine zu ?_;refine LoadV.mem U (i:=0) rfl (by rw[t1,show 0+k*1=k by omega];exact qki F aa) (zw ?_);have h1:w3.cell? ⟨b,(0+0+k*tsz Dp 244)+1,none⟩=some (ii (tw l k:Nat)):=by rw[ad];exact hc 1 _ rfl
 have h5:w3.cell? ⟨b,(0+0+k*tsz Dp 244)+5,none⟩=some (.slice PP (qg l k).length cp):=by rw[ad];exact hc 5 _ rfl
 refine zcv (qff b _ L H (tw l k) cp (F k) PP (qg l k) w3 h1 h5 aj ai Oo Oo) ?_;rintro r w4 ⟨rfl,ak⟩;replace U:=U.call ak;have ar:=(treD l).sr_le k (F k) (show L<=H by omega);obtain⟨e,ee⟩:∃e,e=(treD l).sr k L H (F k):=⟨_,rfl⟩
 have ev:(L+bsr (λi=>decide (F k<=(numP (qg l k) (tw l k) (L+i):Int))) (H-L) 0 (H-L))=e:=ee.symm;rw[ev];rw[<-ee]at ar;have au:(treD l).nu k e=numP (qg l k) (tw l k) e:=rfl;have av:(treD l).ch k e=chB l k e:=rfl;unfold finD at Z;rw[eN,<-eH,<-eL,<-ee,au,av]at Z;have hx:∀wd,Ext w4.drew wd->Ext w3 wd:=λwd hd=>ak.trans ((Ext.refl w4).drew.trans hd)
 (conv=>whnf);refine DrawV.free Jk Jk (zw ?_);(iterate 4 (refine zd ?_))
 rcases AM e H with al|al
 case inr=>
  rw[Af (.inl al)]at Z;have hd:(decide ((H:Int)<=(e:Int)))=true:=(by grind)
  rw[hd];(iterate 8 (refine zd ?_));intro w5 ae;replace U:=U.drew.call ae;refine zu ?_;refine zcv (qeo b l k e w5 (h.ext U.ext) ac hk Oo) ?_;rintro r w6 ⟨rfl,ab⟩;(conv=>whnf);exact⟨by rw[Z],U.ext.trans ab⟩
 have hd:(decide ((H:Int)<=(e:Int)))=false:=(by grind)
 rw[hd];refine zd ?_;refine zd ?_;apply zsd (ii (numP (qg l k) (tw l k) e:Nat))
 ·intro wd hd;refine zu ?_;have af:=hx wd hd;refine zcv (qbt b _ e (tw l k) cp PP (qg l k) wd (af.cell h1) (af.cell h5) (aj.ext af) ai Oo) ?_
  simp_all
 (conv=>whnf);refine zd ?_;apply zsd (.pointer (some ⟨qb,k,none⟩))
 ·intro wd hd;refine zu ?_
  grind [Ext.refl]
 (conv=>whnf);apply zsd (ii (F k))
 ·intro wd hd;refine zu ?_;refine LoadV.own (Ext.get (Ext.trans (Ext.drew xr) hd) (U.get (Ac.2 rfl))) (qki F aa) (zw ?_);exact xq
 (conv=>whnf);refine zd ?_;refine zd ?_;intro w5 ae;replace U:=U.drew.call ae
 rcases BW (((numP (qg l k) (tw l k) e:Nat):Int)=F k)with ag|ag
 case inr=>
  rw[Af (.inr ag)]at Z;refine zu ?_;refine zcv (qeo b l k e w5 (h.ext U.ext) ac hk Oo) ?_;rintro r w6 ⟨rfl,ab⟩;(conv=>whnf);exact⟨by rw[Z],U.ext.trans ab⟩
 rw[Ab (by rintro(g|g);omega;exact g ag)]at Z
 rcases AM k 3 with ah|ah
 case inr=>
  obtain rfl:k=3:=by omega
  refine zu ?_;exact⟨by rw[Z];rfl,U.ext⟩
 obtain⟨m,em⟩:∃m,3-k=m+1:=⟨3-(k+1),by omega⟩
 rw[em]at Z;dsimp only at Z;obtain rfl:m=3-(k+1):=by omega
 have am:=qr0 (i:=e) h.nn Oo (ac k ah);refine zu ?_;refine zcv (qch b l k e w5 (h.ext U.ext) Oo Oo (ac k ah)) ?_;rintro r w6 ⟨rfl,ab⟩;refine zu ?_;exact⟨(k+1,(chB l k e).1,(chB l k e).2),⟨rfl,rfl,rfl,rfl,Ae (Value.int .i64) Oo,trivial⟩,⟨by omega,am.1,am.2,Z,U.call ab⟩,by omega⟩
theorem V.RowX.capd{H n:Nat}{v:Di}(h:RowX e H v n xs Y):∃A c,v=.slice A n c/\n<=c/\(n=0\/∃g,A=some ⟨g,0,none⟩):=by
 obtain⟨_,⟨rfl,rfl,_⟩|⟨g,U,cur,rfl,_,Z,_⟩⟩:=h
 all_goals grind
theorem V.RowX.cells{α:Type}{H:α->Dn}{e:Nat}(Z:∀x,(H x).length=sz){l:List α}(h:RowX e sz (.slice (some ⟨g,0,none⟩) l.length c) l.length (l.map H).flatten Y)(hY:∀x∈Y,w.heap[x.1]?=some x.2):
  ∀(i:Nat) (x:α),l[i]?=some x->CellsAt w g (0+i*sz) (H x):=by
 intro i x hi k u hu;obtain⟨_,⟨U,_⟩|⟨g',ac,cur,U,rfl,_,_,_,h5⟩⟩:=h
 ·simp_all
 injection U with U _ _
 injection U with U
 injection U with U
 subst U;have hk:k<sz:=by
  grind
 have ab:=(Ad.1 hi).1;have aa:=qbv H sz Z l i x k hi hk;have hb:(i+1)*sz<=l.length*sz:=Bd _ ab;rw[<-h5,Bn,Af (by rw[Ch]at hb;omega),hu]at aa;rw[qa (hY _ (Ac.2 rfl)),Aq]
 simpa using aa
theorem qdq(w0:Dd):Carr λX w=>Mem w0 w X:=
 ⟨λh H=>h.call H,λh U=>h.get U,λ_ h=>h.new rfl rfl,λZ h=>h.setO (i:=0) Z rfl rfl,λh=>h.sub Js,λh hp=>h.perm hp.symm⟩
theorem V.RowX.sl{α:Type}{H:α->Dn}{e n:Nat}{v:Di}(U:∀x,(H x).length=sz){l:List α}(h:RowX e sz v n (l.map H).flatten Y)(Z:l.length=n)(hY:∀x∈Y,w.heap[x.1]?=some x.2):
  ∃A c,v=.slice A n c/\n<=c/\SlAt H sz w A l:=by
 subst Z;obtain⟨A,c,rfl,hc,hg⟩:=V.RowX.capd h;refine⟨A,c,rfl,hc,⟨λaa=>?_⟩⟩
 grind [V.RowX.cells]
namespace V
section
variable {J:Dm->Dl} {W Y:Dm} {o:Obj} {R R2:Di->Dm->Prop} {s1 s2 s3:Bool} {v u x:Di} {w:Dd}
end
end V
def wilF(P:Nat->Int):Nat->Nat
 | 0=>0
 | k+1=>if P k<0 then wilF P k else k+1
theorem qrh(P:Nat->Int):∀k,wilF P k<=k
 | 0=>Ao _
 | k+1=>by
  have:=qrh P k;rw[wilF]
  split<;>omega
theorem qm5{P:Nat->Int}:∀{k j:Nat},wilF P k<=j->j<k->P j<0
 | 0,j,_,h=>Oo
 | k+1,j,H,Z=>by
  rw[wilF]at H
  split at H
  ·rename_i U
   rcases AM j k with g|g
   ·exact qm5 H g
   ·obtain rfl:j=k:=by omega
    exact U
  ·omega
theorem q1a(P:Nat->Int)(w:Dd):Gv Dp 126 [.agg #[ii (P 0),ii (P 1),ii (P 2),ii (P 3)]] w λr w'=>r=ii (wilF P 4:Nat)/\Ext w w':=by
 have t1:tsz Dp 3=1:=by kernel_rfl
 obtain⟨R,H⟩:∃R,R=wilF P 4:=⟨_,rfl⟩
 rw[<-H];refine ze Tryz.func126 Tryz.ntmps126 ?_;refine znm (Mem.nil w) ?_;intro Z w1 U;have U:Mem w w1 [(Z,.cells (idC P).toArray 95)]:=U;(conv=>whnf);refine qn (λk:Nat=>[(1,pp Z),(3,ii k)]) (λk w'=>k<=4/\R=wilF P k/\Mem w w' [(Z,.cells (idC P).toArray 95)]) (λk=>k) 4 fq ⟨Ao _,H,U⟩ ?_;clear U H;rintro k w2 aa ⟨hk,H,U⟩
 rcases B0 k with h0|h0
 case inl=>
  subst h0;refine zu ?_;exact⟨by rw[H];rfl,U.ext⟩
 obtain⟨m,rfl⟩:∃m,k=m+1:=⟨k-1,by omega⟩
 rw[wilF]at H;refine zu ?_;refine IdxV.at_ m Oo Oo (zu ?_);refine LoadV.own (U.get (Ac.2 rfl)) (by rw[t1,show 0+m*1=m by omega];exact qki P Oo) ?_
 rcases Dc (P m) 0 with hn|hn
 ·rw[Af hn]at H;refine zu ?_;exact⟨m,⟨rfl,Ae (Value.int .i64) Oo,trivial⟩,(by grind),by omega⟩
 ·rw[Ab Oo]at H;refine zu ?_;exact⟨by rw[H],U.ext⟩
def tcnt(l:LB)(P:Nat->Int):Nat:=cntD (treD l) (vNum l 3) (tmaR l P).length (wilF P 4) P (wilF P 4) 0 0 (vNum l 0)
theorem qq0(T:LvD)(N:Nat):∀(f k i:Nat),staD T N f k i<=N
 | 0,k,i=>Nat.min_le_right ..
 | f+1,k,i=>by
  rw[staD]
  split
  ·exact Ao _
  ·exact qq0 T N f _ _
theorem q43{n:Nat}(h:TOk Q n)(P:Nat->Int):tcnt (qm Q n) P=(maT P Q 0 0 n).length:=by
 have U:vNum (qm Q n) 3=n:=by rw[h.vNum Od,h.all Oo]
 have Z:(tmaR (qm Q n) P).length=(maT P Q 0 0 n).length:=by rw[<-h.mtch (q:=λ_=>0),AC];rfl
 rw[tcnt,Z,U]
 rcases B0 (wilF P 4)with H|H
 ·rw[H,cntD,qhq Od (λj _ hj=>qm5 Oo hj)];rfl
 ·refine q7j h h.canD (qrh P 4) (by grind [qm5]) H Oo ?_ ?_
  ·rw[h.vNum Od];exact h.winT
  ·rw[h.vNum Od];exact Ae List.length h.lvM_all
theorem qv4(b:Nat)(l:LB)(P:Nat->Int)(w:Dd)(h:TreeAt w b l)(ac:VmOk l)(hP:∀k,k<4->InR .i64 (P k))(bb:(tmaR l P).length<=1048576):
  Gv Dp 62 [pp b,.agg #[ii (P 0),ii (P 1),ii (P 2),ii (P 3)]] w λr w'=>r=ii (tcnt l P:Nat)/\Ext w w':=by
 have t8:tsz Dp 244=8:=by kernel_rfl
 have t1:tsz Dp 3=1:=by kernel_rfl
 obtain⟨W,eW⟩:∃W,W=wilF P 4:=⟨_,rfl⟩
 have be:W<=4:=by grind [qrh]
 obtain⟨Z,eZ⟩:∃Z,Z=(tmaR l P).length:=⟨_,rfl⟩
 obtain⟨R,eR⟩:∃R:Nat,R=tcnt l P:=⟨_,rfl⟩
 rw[<-eR];rw[tcnt,<-eW,<-eZ]at eR;have h3:=h.n 3 Od;refine gvW Jk Tryz.func62 rfl Tryz.ntmps62 rfl (zw ?_);refine znm (Mem.nil w) ?_;intro qb w1 U;obtain⟨qo,ak⟩:∃qo:Obj,qo=.cells (idC P).toArray 95:=⟨_,rfl⟩
 have U:Mem w w1 [(qb,qo)]:=by rw[ak];exact U
 have ad:∀L w',Mem w w' (L++[(qb,qo)])->w'.heap[qb]?=some (.cells (idC P).toArray 95):=λL w' h=>by rw[<-ak];exact h.get (Aa _ (Ac.2 rfl))
 (conv=>whnf);refine LoadA.own (ad [] _ U) rfl (zw ?_);refine zcv (q1a P w1) ?_;rintro r w2 ⟨rfl,av⟩;rw[<-eW];replace U:=U.call av;(conv=>whnf);refine DrawW.any Jk (.inl rfl) (AnyV.free Jk ?_);(conv=>whnf);(iterate 3 (refine zd ?_));refine zf ?_ (by intro wd hd;(conv=>whnf);refine zJ 0 ?_;(conv=>whnf);exact xq);refine zd ?_;refine zsd (ii (vNum l 0:Nat)) (λwd hd=>zw ?_) (zw ?_)
 ·obtain⟨PP,cp,S,cs,VV,hc,_⟩:=((h.ext U.ext).lv 0 Oo).h;refine LoadV.cellsE (hc.ext (Ext.trans (Ext.drew xr) hd)) 0 Js rfl (zw ?_);exact xq
 refine zd ?_;refine zd ?_;intro w3 aw;replace U:=U.drew.call aw;(conv=>whnf);refine q3l (λx:Nat×Nat×Nat=>[(0,pp b),(3,pp qb),(5,ii W),(6,ii x.2.1),(7,ii x.2.2),(20,ii W),(21,ii x.1)])
  (λx w'=>x.1<=W/\x.2.1<=1048576/\x.2.2<=1048576/\R=cntD (treD l) (vNum l 3) Z W P (W-x.1) x.1 x.2.1 x.2.2/\Mem w w' [(qb,qo)]) (λx=>W-x.1) (0,0,vNum l 0)
  fq ⟨An _,An _,h.n 0 Od,eR,U⟩ ?_
 clear U eR;rintro⟨k,lo,hi⟩ w4 bf ⟨hk,ax,ay,eR,U⟩;dsimp only at hk ax ay eR U|-
 rcases AM k W with az|az
 case inr=>
  obtain rfl:k=W:=by omega
  rw[Cw,cntD]at eR;refine zu ?_;refine zcv (qgb b l w4 (h.ext U.ext)) ?_;rintro r w5 ⟨rfl,rfl⟩;(conv=>whnf);exact⟨by rw[eR],U.ext⟩
 have ab:k<4:=by omega
 have bg:=h.n k ab;have al:=h.wd k ab;obtain⟨PP,cp,S,cs,VV,hc,am,_⟩:=((h.ext U.ext).lv k ab).h;obtain⟨m,em⟩:∃m,W-k=m+1:=⟨W-(k+1),by omega⟩
 rw[em,cntD,Ab Oo]at eR;refine zu ?_;refine LoadV.own (ad [] _ U) (by rw[t1,show 0+k*1=k by omega];exact qki P ab) ?_
 rcases Dc (P k) 0 with hn|hn
 case inl=>
  rw[Af hn]at eR;refine zu ?_;have cM:=qdq w;refine NewV.carr cM U λnb w5 U=>zw ?_;refine StoreV.carr cM (A:=[]) U Js rfl ?_;clear U;intro w6 U;have U:Mem w w6 ([(nb,.cells #[ii 0] 3)]++[(qb,qo)]):=U;(conv=>whnf);refine LoadA.own (ad _ _ U) rfl (zw ?_);refine zcv (qk3 b P w6) ?_;rintro r w7 ⟨c1,c2,rfl,a0⟩;replace U:=cM.call U a0;obtain⟨L,hL⟩:∃L:Dm,L=[(c2,.cells #[ii (P 0),ii (P 1),ii (P 2),ii (P 3)] 95),(c1,.cells #[pp b] 141)]:=⟨_,rfl⟩
  have U:Mem w w7 ([]++((nb,.cells #[ii (0:Nat)] 3)::(L++[(qb,qo)]))):=by
   rw[hL];refine U.perm ?_
   simpa using(Bm (a:=(nb,Obj.cells #[ii 0] 3)) (l₁:=[(c2,Obj.cells #[ii (P 0),ii (P 1),ii (P 2),ii (P 3)] 95),(c1,Obj.cells #[pp b] 141)]) (l₂:=[(qb,qo)])).symm
  have a1:(c1,Obj.cells #[pp b] 141)∈L:=by rw[hL];simp
  have a2:(c2,Obj.cells #[ii (P 0),ii (P 1),ii (P 2),ii (P 3)] 95)∈L:=by rw[hL];simp
  have a3:((tmaR l P).map mRow).length=Z:=by simp_all
  have cJ:∀k:Nat,Carr λX w'=>Mem w w' (X++((nb,.cells #[ii k] 3)::(L++[(qb,qo)]))):=λk=>cM.tail _
  (conv=>whnf);refine qtc (Φ:=λw=>TmaΦ b l c1 c2 w/\q61 P c2 w) (lb:=[pp c1,pp c2]) (xs:=(tmaR l P).map mRow) rfl Jk (qk4 b l P c1 c2 ac hP) Od ?_
   (λk X w'=>Mem w w' (X++((nb,.cells #[ii k] 3)::(L++[(qb,qo)])))) (λc k X w'=>False/\Mem w w' (X++((nb,.cells #[ii k] 3)::(L++[(qb,qo)]))))
   cJ (λc k=>Carr.and (cJ k))
   (λk X w' hh=>⟨⟨h.ext hh.ext,by rw[qa (hh.get (Aa _ (zmc (Am _ a1))))];rfl⟩,λj v hv=>by rw[qa (hh.get (Aa _ (zmc (Am _ a2)))),Aq,<-hv];simp⟩) U ?_ ?_ ?_
  ·intro r hr;obtain⟨j,_,rfl⟩:=AG.1 hr;rfl
  ·rintro l2 D od k2 r X w8 w9 hr hJ;have bh:k2<Z:=by grind
   rw[Ar]at hr;cases an:(tmaR l P)[k2]? with
   | none=>simp_all
   | some row=>
   rw[an,AU,AN]at hr;subst hr;(conv=>whnf);refine⟨rfl,rfl,?_⟩;(conv=>whnf);refine LoadV.own (hJ.get (Aa ((l2,od)::(D,.deferred (some []))::X) mh)) rfl (zu ?_);refine StoreV.carr cM (A:=(l2,od)::(D,.deferred (some []))::X) hJ Js rfl λbi hJ=>zw ?_;exact hJ
  ·rintro D w8 hJ;rw[a3]at hJ;(conv=>whnf);refine LoadV.own (hJ.get (Aa _ mh)) rfl (zw ?_);refine LeaveV.marks (J:=λX w'=>Mem w w' (X++((nb,.cells #[ii Z] 3)::(L++[(qb,qo)])))) (cJ Z) ?_ (D:=D) (Ds:=[]) hJ;intro w' h';(conv=>whnf);exact⟨by rw[eR],h'.ext⟩
  simp
 rw[Ab Oo]at eR;obtain⟨H,eH⟩:∃H,H=min hi (vNum l k):=⟨_,rfl⟩
 obtain⟨L,eL⟩:∃L,L=min lo H:=⟨_,rfl⟩
 have eN:(treD l).N k=vNum l k:=rfl;have ae:0+0+k*tsz Dp 244=8*k:=by rw[t8];omega
 refine zu ?_;refine LoadV.cellsE hc 0 Oo rfl (zw ?_);refine V.Fall.min2 rfl rfl rfl λm bj=>?_;obtain rfl:m=(H:Int):=by omega
 (conv=>whnf);refine V.Fall.min2 rfl rfl rfl λm bk=>?_;obtain rfl:m=(L:Int):=by omega
 refine zu ?_;refine LoadV.own (ad [] _ U) (by rw[t1,show 0+k*1=k by omega];exact qki P ab) (zw ?_);have h1:w4.cell? ⟨b,(0+0+k*tsz Dp 244)+1,none⟩=some (ii (tw l k:Nat)):=by rw[ae];exact hc 1 _ rfl
 have h5:w4.cell? ⟨b,(0+0+k*tsz Dp 244)+5,none⟩=some (.slice PP (qg l k).length cp):=by rw[ae];exact hc 5 _ rfl
 refine zcv (qff b _ L H (tw l k) cp (P k) PP (qg l k) w4 h1 h5 am al Oo Oo) ?_;rintro r w5 ⟨rfl,ao⟩;replace U:=U.call ao;have a4:=(treD l).sr_le k (P k) (show L<=H by omega);obtain⟨e,ee⟩:∃e,e=(treD l).sr k L H (P k):=⟨_,rfl⟩
 have ev:(L+bsr (λi=>decide (P k<=(numP (qg l k) (tw l k) (L+i):Int))) (H-L) 0 (H-L))=e:=ee.symm;rw[ev];rw[<-ee]at a4;have a5:(treD l).nu k e=numP (qg l k) (tw l k) e:=rfl;have a6:(treD l).ch k e=chB l k e:=rfl;rw[eN,<-eH,<-eL,<-ee,a5,a6]at eR;have hx:∀wd,Ext w5.drew wd->Ext w4 wd:=λwd hd=>ao.trans ((Ext.refl w5).drew.trans hd)
 (conv=>whnf);refine DrawW.any Jk (.inl rfl) (AnyV.free Jk ?_);(conv=>whnf);(iterate 4 (refine zd ?_))
 rcases AM e H with aq|aq
 case inr=>
  rw[Af (.inl aq)]at eR;have hd:(decide ((H:Int)<=(e:Int)))=true:=(by grind)
  rw[hd];(iterate 8 (refine zd ?_));intro w6 af;replace U:=U.drew.call af;refine zu ?_;exact⟨by rw[eR];rfl,U.ext⟩
 have hd:(decide ((H:Int)<=(e:Int)))=false:=(by grind)
 rw[hd];refine zd ?_;refine zd ?_;apply zsd (ii (numP (qg l k) (tw l k) e:Nat))
 ·intro wd hd;refine zu ?_;have ag:=hx wd hd;refine zcv (qbt b _ e (tw l k) cp PP (qg l k) wd (ag.cell h1) (ag.cell h5) (am.ext ag) al Oo) ?_
  grind
 (conv=>whnf);refine zd ?_;apply zsd (.pointer (some ⟨qb,k,none⟩))
 ·intro wd hd;refine zu ?_
  grind [Ext.refl]
 (conv=>whnf);apply zsd (ii (P k))
 ·intro wd hd;refine zu ?_;refine LoadV.own (Ext.get (Ext.trans (Ext.drew xr) hd) (ad [] _ U)) (qki P ab) (zw ?_);exact xq
 (conv=>whnf);refine zd ?_;refine zd ?_;intro w6 af;replace U:=U.drew.call af
 rcases BW (((numP (qg l k) (tw l k) e:Nat):Int)=P k)with ah|ah
 case inr=>
  rw[Af (.inr ah)]at eR;refine zu ?_;exact⟨by rw[eR];rfl,U.ext⟩
 rw[Ab (by rintro(g|g);omega;exact g ah)]at eR
 rcases AM k 3 with ai|ai
 case inr=>
  obtain rfl:k=3:=by omega
  rw[Af rfl]at eR;refine zu ?_;exact⟨by rw[eR];rfl,U.ext⟩
 rw[Ab Oo]at eR
 rcases BW (k+1=W)with aa|aa
 case inl=>
  rw[Af aa]at eR;refine zu ?_;refine zcv (qeo b l k (e+1) w6 (h.ext U.ext) ac Oo Oo) ?_;rintro r w7 ⟨rfl,aj⟩;replace U:=U.call aj;obtain⟨y1,a7⟩:∃y1,y1=staD (treD l) (vNum l 3) (3-k) k (e+1):=⟨_,rfl⟩
  obtain⟨y0,ar⟩:∃y0,y0=staD (treD l) (vNum l 3) (3-k) k e:=⟨_,rfl⟩
  have a8:=qq0 (treD l) (vNum l 3) (3-k) k (e+1);have a9:=qq0 (treD l) (vNum l 3) (3-k) k e;rw[<-a7]at a8 eR|-;rw[<-ar]at a9 eR;(conv=>whnf);refine zcv (qeo b l k e w7 (h.ext U.ext) ac Oo Oo) ?_;rintro r w8 ⟨rfl,ba⟩;rw[<-ar];replace U:=U.call ba;refine zu ?_;refine V.Fall.max2 rfl rfl rfl λm bl=>?_
  (conv=>whnf);exact⟨by grind,U.ext⟩
 rw[Ab aa]at eR;obtain rfl:m=W-(k+1):=by omega
 have au:=qr0 (i:=e) h.nn Oo (ac k ai);refine zu ?_;refine zcv (qch b l k e w6 (h.ext U.ext) Oo Oo (ac k ai)) ?_;rintro r w7 ⟨rfl,aj⟩;refine zu ?_;exact⟨rfl,(k+1,(chB l k e).1,(chB l k e).2),⟨rfl,rfl,rfl,rfl,rfl,rfl,Ae (Value.int .i64) Oo,trivial⟩,⟨by omega,au.1,au.2,eR,U.call aj⟩,by omega⟩
structure GlobS(w:Dd):Prop where
 M:MaxLenAt w
 T:CellsAt w 4 0 qa3
 K:qio w
theorem GlobS.ext(h:GlobS w)(H:Ext w w'):GlobS w':=⟨h.M.ext H,CellsAt.ext h.T H,CellsAt.ext h.K H⟩
def sRow(qs:List Q4)(i:Nat):Dn:=[ii i,qw (qs.getD i zQ)]
structure IdxE(w:Dd)(x pb vb tb:Nat)(l:LB):Prop where
 c:w.cell? ⟨x,0,none⟩=some (pp pb)
 b:w.heap[pb]?=some (.cells #[ii (hN l 2),ii (hN l 3),ii (hN l 4),ii (hN l 5),pp vb,pp tb] 241)
 v:VocAt w vb (qp l)
 t:TreeAt w tb (qt l)
theorem IdxE.ext{x:Nat}(h:IdxE w x pb vb tb l)(H:Ext w w'):IdxE w' x pb vb tb l:=⟨H.cell h.c,H.get h.b,h.v.ext H,h.t.ext H⟩
theorem IdxE.pk{x:Nat}(h:IdxE w x pb vb tb l):PackAt w pb l:=⟨vb,tb,h.b,h.v,h.t⟩
theorem IdxE.at_{x:Nat}(h:IdxE w x pb vb tb l):IdxAt w x l:=⟨pb,h.c,h.pk⟩
theorem qdj(b tb:Nat)(H U Z a3 a4:Di)(w:Dd)(h:w.heap[b]?=some (.cells #[H,U,Z,a3,a4,pp tb] 241)):Gv Dp 61 [pp b] w λv w'=>v=pp tb/\w'=w:=by
 refine ze Tryz.func61 Tryz.ntmps61 ?_;refine LoadV.own h rfl (zw ?_);exact⟨rfl,rfl⟩
structure SmaΦ(x pb vb tb:Nat)(T:List TM)(qs:List Q4)(p:Q4)(b1 b2:Nat)(w:Dd):Prop where
 X:IdxE w x pb vb tb (encP T qs)
 G:GlobS w
 c1:w.cell? ⟨b1,0,none⟩=some (pp x)
 c2:CellsAt w b2 0 (qe p)
theorem qhh(x:Nat)(p:Q4)(w:Dd):Gv Dp 63 [pp x,qw p] w λr w'=>
  ∃b1 b2,r=.func (.func 132) #[] #[pp b1,pp b2]/\Mem w w' [(b2,.cells (qe p).toArray 47),(b1,.cells #[pp x] 26)]:=by
 refine ze Tryz.func63 Tryz.ntmps63 ?_;refine znm (Mem.nil w) λb1 U H=>zw ?_;refine znm H λb2 Z H=>zw ?_;exact⟨b1,b2,rfl,H⟩
section
variable {T:List TM} {qs:List Q4} (h:EncOk T qs)
include h
theorem EncOk.pq{q:Q4}(H:qs[i]?=some q):qd6 (encP T qs) i=.tuple #[qw q,.bool true]:=by
 have Z:=(Ad.1 H).1;have e4:q4Of (qp (encP T qs)) (qIds (encP T qs) i)=q:=h.quad4 H;have hE:(toE (qt (encP T qs))).2=0:=by rw[h.t];exact h.set.tok.toE
 have U:PqOk (encP T qs) i:=⟨⟨by rw[h.n];exact Z,q91 (qju hE) (by rw[h.n];exact Z)⟩,(λj hj g=>by
  rw[show qIds (encP T qs) i j=tNum (qt (encP T qs)) i j from rfl,h.told H hj]at g;cases g),by rw[e4];exact h.quad _ (zmg H)⟩
 rw[qd6,Af U,e4]
theorem EncOk.tma{p:Q4}(H:KnQ T p):(tmaR (qt (encP T qs)) (idP T p)).map (·.1)=qal p qs:=by
 have U:∀q∈qs,∀k,k<4->gat q k∈T\/gat q k=zTM:=λq Z k hk=>(h.set.mem q Z k hk).imp id λg=>g.2.2
 rw[tmaR,h.t,h.set.tok.mtch];exact qi5 h.set.rise (λt ht=>(h.kinds t ht).1) U (λ_ _=>rfl) H
theorem EncOk.tmaN{p:Q4}(U:¬KnQ T p):qal p qs=[]:=by
 have Z:∀q∈qs,∀k,k<4->gat q k∈T\/gat q k=zTM:=λq hq k H=>(h.set.mem q hq k H).imp id λg=>g.2.2
 obtain⟨k,H⟩:=Classical.not_forall.1 U;obtain⟨h4,H⟩:=Classical.not_imp.1 H;exact qzd Z h4 H
theorem EncOk.vms:∀k,k<3->tVec (qt (encP T qs)) (k+1)=true->vM (qd (qt (encP T qs)) (k+1))<=vN (qd (qt (encP T qs)) (k+1)):=λk Z _=>by
 rw[h.t];obtain⟨_,H,U,_⟩:=h.set.tok.vec (k:=k) Oo;rw[H,U];exact qn5 k _
end
theorem q3p{p:Q4}(h:i∈qal p qs):∃q,qs[i]?=some q/\fitQ p q=true:=by
 rw[qal,Bo]at h;obtain⟨U,H⟩:=h;have:=B7.1 U;refine⟨qs[i],zge this,?_⟩;rw[zge this]at H;exact H
theorem qhi(T:List TM)(qs:List Q4)(h:EncOk T qs)(x pb vb tb:Nat)(p:Q4)(hp:qap p)(hP:∀k,k<4->InR .i64 (idP T p k))(b1 b2:Nat):
  SeqC Dp 132 [pp b1,pp b2] ((qal p qs).map (sRow qs)) (SmaΦ x pb vb tb T qs p b1 b2):=by
 intro y I Ix w Z aa hI H hy;have ac:((qal p qs).map (sRow qs)).length=(qal p qs).length:=AC ..;refine gvW Jk Tryz.func132 rfl Tryz.ntmps132 rfl (zw ?_);refine NewV.carr (Z 0) H λyb w1 H=>zw ?_;refine LoadV.of (hI _ _ _ H).c1 (zw ?_);refine LoadA.cells (hI _ _ _ H).c2 rfl (zw ?_);refine zcv (qtr T qs h x p hp w1 (hI _ _ _ H).X.at_ (hI _ _ _ H).G.M (hI _ _ _ H).G.T) ?_;rintro r w2 ⟨rfl,ai⟩;replace H:=(Z 0).ext H ai
 by_cases hK:KnQ T p
 case neg=>
  rw[qj5,Ab hK];(conv=>whnf);refine NewV.carr (Z 0) H λib w3 H=>zw ?_;refine StoreA.carr (Z 0) (A:=[]) H rfl Od λw4 H=>zu ?_;refine .inl ?_;rw[ac,h.tmaN hK];exact(Z 0).drop ((Z 0).drop H)
 rw[qj5,Af hK];(conv=>whnf);refine NewV.carr (Z 0) H λib w3 H=>zw ?_;refine StoreA.carr (Z 0) (A:=[]) H rfl (by simp[Value.oneCell']) λw4 H=>zu ?_;refine DrawW.tail 6 Jk Jk (.inl rfl) (AnyV.free Jk ?_);(conv=>whnf);refine zf ?_ (by intro wd hd;(conv=>whnf);refine LoadV.of (Ext.cell (Ext.trans (Ext.drew xr) hd) (hI _ _ _ H).c1) ?_;(conv=>whnf);exact xq);refine zd ?_;refine zd ?_;refine zf ?_ (by intro wd hd;(conv=>whnf);refine LoadV.of (Ext.cell (Ext.trans (Ext.drew xr) hd) (hI _ _ _ H).X.c) ?_;(conv=>whnf);exact xq);refine zsd (pp tb) (λwd hd=>zw ?_) (zw ?_)
 ·refine zcv (qdj pb tb _ _ _ _ _ wd (Ext.get (Ext.trans (Ext.drew xr) hd) (hI _ _ _ H).X.b)) ?_;rintro r w5 ⟨rfl,rfl⟩;exact xq
 refine zsd (.agg #[ii (idP T p 0),ii (idP T p 1),ii (idP T p 2),ii (idP T p 3)]) (λwd hd=>zw ?_) (zw ?_)
 ·refine LoadA.own (Ext.get (Ext.trans (Ext.drew xr) hd) ((Z 0).get H mh)) rfl (zw ?_);exact xq
 intro w5 aj;replace H:=(Z 0).ext H (Ext.trans (Ext.drew xr) aj);(conv=>whnf);refine zcv (qk3 tb (idP T p) w5) ?_;rintro r w6 ⟨c1,c2,rfl,ak⟩;replace H:=(Z 0).call H ak;(conv=>whnf);obtain⟨L,hL⟩:∃L:Dm,L=[(c2,.cells #[ii (idP T p 0),ii (idP T p 1),ii (idP T p 2),ii (idP T p 3)] 95),(c1,.cells #[pp tb] 141),(ib,.cells #[ii (idP T p 0),ii (idP T p 1),ii (idP T p 2),ii (idP T p 3)] 95),(yb,.cells #[.func (.yield y) #[] #[]] 150)]:=⟨_,rfl⟩
 have U:I 0 ([]++L) w6:=by rw[hL];exact H
 clear H;have ad:∀(X:Dm),(c2,Obj.cells #[ii (idP T p 0),ii (idP T p 1),ii (idP T p 2),ii (idP T p 3)] 95)∈X++L/\(c1,Obj.cells #[pp tb] 141)∈X++L/\(yb,Obj.cells #[.func (.yield y) #[] #[]] 150)∈X++L:=λX=>by
  rw[hL];refine⟨?_,?_,?_⟩<;>simp
 have ae:((tmaR (qt (encP T qs)) (idP T p)).map mRow).length=(qal p qs).length:=by
  rw[AC,<-h.tma hK,AC]
 refine qtc (Φ:=λw=>TmaΦ tb (qt (encP T qs)) c1 c2 w/\q61 (idP T p) c2 w) (lb:=[pp c1,pp c2]) (xs:=(tmaR (qt (encP T qs)) (idP T p)).map mRow) rfl Jk (qk4 tb (qt (encP T qs)) (idP T p) c1 c2 h.vms hP) Od ?_
  (λk X w'=>I k (X++L) w') (λc k X w'=>∃_:PLift (c=.ret),Ix k (X++L) w')
  (λk=>(Z _).tail _) (λc k=>Carr.any λ_=>(aa _).tail _)
  (λk X w' hh=>⟨⟨(hI _ _ _ hh).X.t,by rw[qa ((Z _).get hh (ad X).2.1)];rfl⟩,λj v hv=>by rw[qa ((Z _).get hh (ad X).1),Aq,<-hv];simp⟩) U ?_ ?_ ?_
 ·intro r hr;obtain⟨j,_,rfl⟩:=AG.1 hr;rfl
 ·rintro l2 D od k r X w7 w8 hr U;rw[Ar]at hr;cases ab:(tmaR (qt (encP T qs)) (idP T p))[k]? with
  | none=>rw[ab]at hr;cases hr
  | some row=>
  rw[ab,AU,AN]at hr;subst hr;have af:(qal p qs)[k]?=some row.1:=by rw[<-h.tma hK,Ar,ab];rfl
  obtain⟨q,hq,ag⟩:=q3p (zmg af);have ar:=(Ad.1 hq).1;have aq:=h.set.len;(conv=>whnf);refine⟨rfl,rfl,?_⟩;(conv=>whnf);refine LoadV.of (hI _ _ _ U).c1 (zw ?_);refine LoadV.of (hI _ _ _ U).X.c (zw ?_);refine zcv (qoc pb (encP T qs) row.1 w8 (hI _ _ _ U).X.pk Oo (hI _ _ _ U).G.M (hI _ _ _ U).G.T (hI _ _ _ U).G.K) ?_;rintro r w9 ⟨rfl,al⟩;replace U:=(Z k).ext U al;rw[h.pq hq];(conv=>whnf);refine NewV.carr (Z k) U λnb au U=>zw ?_;refine StoreA.carr (vs:=qe q) (Z k) (A:=[]) U rfl (qa8 q) λam U=>zu ?_;refine LoadA.cells (vs:=qe p) (hI _ _ _ U).c2 rfl (zu ?_);refine LoadA.own ((Z k).get U mh) rfl (zu ?_);refine zcv (q09 p q am) ?_;rintro r an ⟨rfl,ah⟩;replace U:=(Z k).ext U ah;rw[ag];refine zu ?_;refine LoadV.carr (Z k) U (zmc (ad _).2.2) rfl (zu ?_);refine LoadA.own ((Z k).get U mh) rfl (zu ?_);have ao:((qal p qs).map (sRow qs))[k]?=some [ii row.1,qw q]:=by
   have e:qs.getD row.1 zQ=q:=by rw[Ag,hq];rfl
   rw[Ar,af,AU,sRow,e]
  refine YieldV.mono (hy k _ _ an ao U) ?_;clear U;rintro v av (⟨rfl,U⟩|⟨rfl,hX⟩)
  ·refine zu ?_;exact(Z _).drop U
  ·refine zu ?_;exact⟨⟨rfl⟩,(aa _).drop hX⟩
 ·rintro D w7 U;rw[ae]at U;(conv=>whnf);refine LeaveV.marks (J:=λX w'=>I (qal p qs).length X w') (Z _) ?_ (D:=D) (Ds:=[]) ((Z _).dropL ((Z _).perm U As));intro w' h';(conv=>whnf);exact .inl (by rw[ac];exact h')
 ·rintro D c k w7 hk ⟨⟨rfl⟩,hX⟩;rw[ae]at hk;(conv=>whnf);refine LeaveV.marks (J:=λX w'=>Ix k X w') (aa _) ?_ (D:=D) (Ds:=[]) ((aa _).dropL ((aa _).perm hX As));intro w' h';(conv=>whnf);exact .inr ⟨k,by rw[ac];exact hk,h'⟩
theorem qaan(T:List TM)(h:VOk T)(hr:RiseT T)(hk:∀t∈T,1<=t.kind/\t.kind<=3)(he:∀t∈T,qa2 t=0)(b:Nat)(t:TM)(ht:t∈T\/t=zTM)(ae:TermOk t)(w:Dd)(hV:VocAt w b (vocB T))(hM:MaxLenAt w)(hT:CellsAt w 4 0 qa3):
  Gv Dp 100 [pp b,qr t] w λr w'=>r=.tuple #[ii (noT T t:Nat),.bool true]/\Ext w w':=by
 have ao:=hV.tot (k:=3) Od;refine ze Tryz.func100 Tryz.ntmps100 ?_;refine znm (Mem.nil w) ?_;intro tb w1 U;have U:Mem w w1 [(tb,.cells #[ii t.kind,.string t.text,.string t.type,.string t.lang] 45)]:=U;(conv=>whnf);refine zL U 0 ?_;refine RunV.eqTerm (a:=t) (b:=zTM) (.inl rfl) (zw ?_);cases hz:qx t zTM
 case true=>
  obtain rfl:=ql.1 hz;refine zu ?_;exact⟨by rw[qfy rfl];rfl,U.ext⟩
 have ht:t∈T:=ht.resolve_right λe=>by rw[e,ql.2 rfl]at hz;cases hz
 refine zu ?_;refine zL U 0 ?_;have ac:=qer t ae w1 (hM.ext U.ext) (hT.ext U.ext);rw[Af (he t ht)]at ac;refine zcv (ac) ?_;rintro r w2 ⟨rfl,af⟩;have U:=U.call af;refine zu ?_;have aq:=hk t ht;obtain⟨k,aa,ek⟩:∃k:Nat,k<3/\t.kind=((k+1:Nat):Int):=⟨(t.kind-1).toNat,by omega,by omega⟩
 obtain⟨d,hd,_⟩:=hV.cell;obtain⟨ag,ah,ai⟩:=hd k aa;have aj:CellsAt w b (2*k) [.pointer (some ⟨d k,0,none⟩),ii (vTot (vocB T) k+1:Nat)]:=λj v hv=>by
  match j,hv with
  | 0,hv=>rw[<-hv];exact ag
  | 1,hv=>rw[<-hv];exact ah
 refine DrawV.gen (λS H w'=>Al w [(tb,.cells #[ii t.kind,.string t.text,.string t.type,.string t.lang] 45)] (.cells #[.pointer none,ii 0] 302) (.cells #[.pointer (some ⟨d k,0,none⟩),ii (vTot (vocB T) k+1:Nat)] 302) (.cells #[] 0) (.cells #[] 0) (S 8) false (S 9) false (H 8) undef w') rfl Jk (λH=>Al.start U.drew) ?_;clear U;(conv=>whnf);refine zg ?_;refine zg ?_;refine StepG.of (ii t.kind) (λS H wd hk hp Z=>zw ?_) ?_
 ·refine zr Z.mem 0 ?_;exact⟨rfl,Z⟩
 rw[ek];(iterate 3 (refine zg ?_));refine StepG.of (.pointer (some ⟨b,2*k,none⟩)) (λS H wd hk hp Z=>zw ?_) ?_
 ·refine IdxV.at_ k Oo Oo (zw ?_);exact⟨Ae (λo=>Value.pointer (some ⟨b,o,none⟩)) (by rw[show tsz Dp 302=2 from by kernel_rfl];show 0+0+k*2=2*k;omega),Z⟩
 refine StepG.of (.agg #[.pointer (some ⟨d k,0,none⟩),ii (vTot (vocB T) k+1:Nat)]) (λS H wd hk hp Z=>zw ?_) ?_
 ·refine LoadA.cells (CellsAt.ext aj Z.mem.ext) (by rw[show tsz Dp 302=2 from by kernel_rfl];rfl) (zw ?_);exact⟨rfl,Z⟩
 refine StepG.any (λS H wd hk hp Z=>?_) ?_
 ·dsimp only at Z;rw[hk]at Z;(conv=>whnf);refine⟨λx wx hb hw=>?_⟩;subst hb hw;(conv=>whnf);exact⟨trivial,Z.new1⟩
 refine StepG.of undef (λS H wd hk hp Z=>?_) ?_
 ·dsimp only at Z;have h9:S 8=true:=hp 8 Od;rw[hk,h9]at Z;obtain⟨nb,hv,M,ak,al⟩:=Z.put1;rw[qbj hv];refine zS ak 0 λwx am=>zw ?_;exact⟨rfl,by show Al _ _ _ _ _ _ (S 8) false true false _ _ _;rw[h9];exact al am rfl⟩
 intro H w5 Z;obtain⟨t8,an,U⟩:=Z.done1;rw[qbj an];clear Z;have U:Mem w w5 [(t8,.cells #[.pointer (some ⟨d k,0,none⟩),ii (vTot (vocB T) k+1:Nat)] 302),(tb,.cells #[ii (k+1:Nat),.string t.text,.string t.type,.string t.lang] 45)]:=U;(conv=>whnf);refine zr U 0 ?_;have ab:DictAt w5 (d k) (qj (secE T k)):=by
  have:=ai.ext U.ext
  rwa[h.sDict aa]at this
 refine zcv (qsh (secE T k) (h.d k aa) (d k) ⟨(qae t).toArray⟩ w5 ab) ?_;rintro r w6 ⟨⟨N,hN,rfl⟩,ad⟩;obtain⟨f1,f2,f3⟩:=h.find hr hk aa ht ek hN;rw[show decide (N<(secE T k).length/\(⟨(tx (secE T k) N).toArray⟩:De)=⟨(qae t).toArray⟩)=true from AI ⟨f1,f2⟩];have U:=U.call ad;have ar:=(h.d k aa).n;have au:=hV.tot (k:=k) Oo;refine zu ?_;refine zr U 0 ?_;refine zv ?_;refine zcv (qlo (d k) (qj (secE T k)) w6 (ab.ext ad)) ?_;rintro r w7 ⟨rfl,rfl⟩;rw[(h.d k aa).eN];refine zu ?_;refine zr U 0 ?_;refine zv ?_;refine⟨?_,U.ext⟩;rw[f3];rfl
def idF(T:List TM)(q:Q4)(i j:Nat):Int:=if j<i then(noT T (gat q j):Nat)else 0
def gQ(q:Q4):Q4:=⟨q.g,q.s,q.p,q.o⟩
theorem q27(q:Q4)(H:k<4):(gQ q).at k=gat q k:=by
 rcases(show k=0\/k=1\/k=2\/k=3 by omega)with rfl|rfl|rfl|rfl<;>rfl
theorem qya(T:List TM)(q:Q4)(H:i<4):(fnA 4 (inF (idF T q i))).setIfInBounds i (ii (noT T (gat q i):Nat))=fnA 4 (inF (idF T q (i+1))):=by
 rw[qdy];refine qdx λj U=>?_
 by_cases e:j=i
 ·subst e;rw[qax,inF,idF,Af (Ca _)]
 ·rw[q7 _ _ _ _ e,inF,inF,idF,idF]
  congr 1
  by_cases h:j<i
  ·rw[Af h,Af Oo]
  ·rw[Ab h,Ab Oo]
theorem q5k(T:List TM)(h:VOk T)(hr:RiseT T)(hk:∀t∈T,1<=t.kind/\t.kind<=3)(he:∀t∈T,qa2 t=0)(b:Nat)(q:Q4)(hq:∀k,k<4->gat q k∈T\/gat q k=zTM)(aa:qap q)(w:Dd)(hV:VocAt w b (vocB T))(hM:MaxLenAt w)(hT:CellsAt w 4 0 qa3):
  Gv Dp 74 [pp b,qw q] w λr w'=>r=.tuple #[idsV λk=>noT T (gat q k),.bool true]/\Ext w w':=by
 refine ze Tryz.func74 Tryz.ntmps74 ?_;refine znm (Mem.nil w) ?_;intro Z w1 H;have H:Mem w w1 [(Z,.cells (qe q).toArray 47)]:=H;refine znm H ?_;intro b4 w2 H;refine znm H ?_;intro b6 w3 H;have H:Mem w w3 [(b6,.cells (fnA 4 (inF (idF T q 0))) 95),(b4,.cells #[ii 0,ii 0,ii 0,ii 0] 95),(Z,.cells (qe q).toArray 47)]:=H;have hc:CellsAt w3 Z 0 (qe q):=CellsAt.mem H (zmg (i:=2) rfl);refine LoadA.cells (qu hc 3 Oo) rfl ?_;refine LoadA.cells (qu hc 0 Oo) rfl ?_;refine LoadA.cells (qu hc 1 Oo) rfl ?_;refine LoadA.cells (qu hc 2 Oo) rfl ?_;refine qn (λk:Nat=>[(0,pp b),(4,pp b4),(6,pp b6),(19,qw (gQ q)),(20,ii k)])
  (λk w'=>k<=4/\Mem w w' [(b6,.cells (fnA 4 (inF (idF T q k))) 95),(b4,.cells #[ii 0,ii 0,ii 0,ii 0] 95),(Z,.cells (qe q).toArray 47)]) (λk=>4-k) 0 fq ⟨by omega,H⟩ ?_
 clear H hc;rintro k w4 ac ⟨k1,H⟩;(conv=>whnf);refine zC (λ_=>zu ?_) (λ_=>zu ?_)
 ·have U:k<4:=by omega
  refine Wit.eq (y:=encT ((gQ q).at k)) (qjc (gQ q) k U) ?_;rw[q27 q U];refine znm H ?_;clear H;intro b8 w5 H;refine StoreA.all (vs:=encT (gat q k)) H (i:=0) rfl rfl (qab _) ?_;clear H;intro w6 H;have H:Mem w w6 [(b8,.cells (encT (gat q k)).toArray 45),(b6,.cells (fnA 4 (inF (idF T q k))) 95),(b4,.cells #[ii 0,ii 0,ii 0,ii 0] 95),(Z,.cells (qe q).toArray 47)]:=H;refine zl H 0 ?_;refine zcv (qaan T h hr hk he b (gat q k) (hq k U) (by rw[<-q27 q U];have:=aa;rcases(show k=0\/k=1\/k=2\/k=3 by omega)with rfl|rfl|rfl|rfl;exact this 3;exact this 0;exact this 1;exact this 2) w6 (hV.ext H.ext) (hM.ext H.ext) (hT.ext H.ext)) ?_;rintro r w7 ⟨rfl,ab⟩;have H:=H.call ab;refine zu ?_;rw[show 0+k*tsz Dp 3=k by rw[show tsz Dp 3=1 from by kernel_rfl];omega];refine StoreV.mem H (i:=1) rfl (by rw[qba];omega) rfl ?_;clear H;intro w8 H;have H:Mem w w8 [(b8,.cells (encT (gat q k)).toArray 45),(b6,.cells ((fnA 4 (inF (idF T q k))).setIfInBounds k (ii (noT T (gat q k):Nat))) 95),(b4,.cells #[ii 0,ii 0,ii 0,ii 0] 95),(Z,.cells (qe q).toArray 47)]:=H;rw[qya T q U]at H;refine zu ?_;exact⟨k+1,⟨rfl,rfl,rfl,rfl,Ae (Value.int .i64) Oo,trivial⟩,⟨by omega,H.sub (Br ..)⟩,by omega⟩
 ·refine zL H 0 ?_;refine zS H 1 ?_;intro w8 H;obtain rfl:k=4:=by omega
  refine qk (R:=λv w'=>v=.tuple #[idsV λk=>noT T (gat q k),.bool true]/\Ext w w') ?_;refine zl H 1 ?_;exact⟨rfl,H.ext⟩
theorem qxu{p t:TM}(h:p.kind≠4):fitT p t=true↔p=t:=by
 grind [fitT,ql]
theorem qpx{p q:Q4}(h:∀k,k<4->(gat p k).kind≠4):fitQ p q=true↔p=q:=by
 rw[qlt];simp only[AB]
 constructor
 ·rintro⟨H,U,Z,h3⟩;refine q7z λk hk=>?_
  grind [qxu]
 grind [qxu]
theorem qei{p:Q4}:i∈qal p qs↔∃q,qs[i]?=some q/\fitQ p q=true:=by
 grind [qal]
theorem qze{p:Q4}(h:∀k,k<4->(gat p k).kind≠4):(qal p qs=[]↔p∉qs)/\∀i,qal p qs=[i]->qs[i]?=some p:=by
 constructor
 ·constructor
  ·intro e H;obtain⟨i,U⟩:=AW.1 H;have:i∈qal p qs:=(by grind [qei,qpx])
   simp_all
  ·intro H;refine CL.2 λi U=>?_
   grind [qei,qpx]
 ·intro i e;obtain⟨q,Z,hf⟩:=qei.1 (show i∈qal p qs by rw[e];exact Ac.2 rfl)
  grind [qpx]
theorem q3q(p:Q4)(qs:List Q4):(qal p qs).length=(qs.filter (fitQ p)).length:=by
 rw[<-qux];have:∀(L:Do),(∀i∈L,∃q,qs[i]?=some q)->(L.filterMap λi=>qs[i]?).length=L.length:=by
  intro L
  induction L<;>grind [List.mem_cons_self]
 grind [qei]
section
variable {α:Type} {c:α->α->Int}
def ledC(c:α->α->Int)(t:α):List α->Nat
 | []=>0
 | x::L=>if c x t<0 then ledC c t L+1 else 0
def insC(c:α->α->Int)(t:α):List α->List α
 | []=>[t]
 | x::L=>if c x t<0 then x::insC c t L else if c x t=0 then x::L else t::x::L
def qc7(c:α->α->Int)(U:List α):List α:=U.foldl (λH t=>insC c t H) []
section
variable (O:OrdC c)
include O
theorem qnz{t:α}:∀{L:List α},RiseC c L->RiseC c (insC c t L)/\∀y,y∈insC c t L↔y=t\/y∈L
 | [],_=>⟨BV _ _,λy=>by simp[insC]⟩
 | x::L,h=>by
  obtain⟨U,Z⟩:=AV.1 h;obtain⟨r1,r2⟩:=qnz (t:=t) (L:=L) Z;rw[insC]
  rcases O.tri x t with g|rfl|g
  ·rw[Af g];refine⟨AV.2 ⟨λy H=>?_,r1⟩,λy=>?_⟩
   ·rcases(r2 y).1 H with rfl|H
    ·exact g
    ·exact U y H
   ·rw[Aw,r2,Aw]
    constructor
    ·rintro(h|h|h)
     ·exact .inr (.inl h)
     ·exact .inl h
     ·exact .inr (.inr h)
    ·rintro(h|h|h)
     ·exact .inr (.inl h)
     ·exact .inl h
     ·exact .inr (.inr h)
  ·rw[Ab (O.irr x),Af (O.eq.2 rfl)];refine⟨h,λy=>⟨.inr,λH=>?_⟩⟩
   rcases H with rfl|H
   ·exact AD ..
   ·exact H
  ·have g1:0<c x t:=O.sym.1 g;rw[Ab Oo,Ab Oo];refine⟨AV.2 ⟨λy H=>?_,h⟩,λy=>Aw⟩
   rcases Aw.1 H with rfl|H
   ·exact g
   ·exact O.trans g (U y H)
theorem qny:∀(U H:List α),RiseC c H->RiseC c (U.foldl (λH t=>insC c t H) H)/\∀y,y∈U.foldl (λH t=>insC c t H) H↔y∈H\/y∈U
 | [],H,h=>(by grind)
 | t::U,H,h=>by
  obtain⟨Z,h2⟩:=qnz O (t:=t) h;obtain⟨r1,r2⟩:=qny U (insC c t H) Z;refine⟨r1,λy=>?_⟩;rw[List.foldl_cons,r2,h2,Aw]
  constructor
  ·rintro((h|h)|h)
   ·exact .inr (.inl h)
   ·exact .inl h
   ·exact .inr (.inr h)
  ·rintro(h|h|h)
   ·exact .inl (.inr h)
   ·exact .inl (.inl h)
   ·exact .inr h
theorem qdf(H:List α):RiseC c (qc7 c H)/\∀y,y∈qc7 c H↔y∈H:=by
 obtain⟨U,Z⟩:=qny O H [] List.Pairwise.nil
 grind [qc7]
theorem qqm{l:List α}(h:l.Pairwise λa b=>c a b<=0)(H:l.Nodup):RiseC c l:=by
 refine(List.pairwise_and_iff.2 ⟨h,H⟩).imp λ{a b} ⟨U,Z⟩=>?_
 rcases O.tri a b with g|e|g
 ·exact g
 ·simp_all
 ·have:=O.sym.1 g;omega
end
noncomputable def uniA[DecidableEq α](H:List α):List α->List α
 | []=>H
 | t::U=>if t∈H then uniA H U else uniA (H++[t]) U
theorem qjv[DecidableEq α]:∀(U H:List α),H.Nodup->(uniA H U).Nodup/\∀y,y∈uniA H U↔y∈H\/y∈U
 | [],H,h=>(by grind [uniA])
 | t::U,H,h=>by
  rw[uniA]
  split
  ·rename_i Z
   obtain⟨r1,r2⟩:=qjv U H h;refine⟨r1,λy=>?_⟩;rw[r2,Aw]
   constructor
   ·rintro(g|g)
    ·exact .inl g
    ·exact .inr (.inr g)
   ·rintro(g|rfl|g)
    ·exact .inl g
    ·exact .inl Z
    ·exact .inr g
  ·rename_i Z
   obtain⟨r1,r2⟩:=qjv U (H++[t]) (by
    refine List.nodup_append.2 ⟨h,BV _ _,λa ha b hb e=>?_⟩;rw[Ac.1 hb]at e;exact Z (e ▸ ha))
   refine⟨r1,λy=>?_⟩;rw[r2,Aw,AJ,Ac,or_assoc]
end
section
variable {α:Type} {c:α->α->Int} (O:OrdC c)
include O
theorem qvw[DecidableEq α]{H s:List α}(Z:s.Perm (uniA [] H))(hs:s.Pairwise λa b=>c a b<=0):s=qc7 c H:=by
 obtain⟨u1,u2⟩:=qjv H [] List.Pairwise.nil;obtain⟨U,i2⟩:=qdf O H;refine RiseC.same O (by grind [qqm]) U λy=>?_
 grind
end
theorem ordT:OrdC cmpT where
 eq:=qa4
 sym {a b}:=by
  constructor
  ·intro h;have H:=qar.1 h;have U:¬cmpT b a<0:=λg=>LtT.irrefl a (H.trans (qar.1 g))
   grind [qa4]
  ·intro h
   rcases LtT.tri a b with g|g|g
   ·exact qar.2 g
   ·grind [qa4]
   ·have:=qar.2 g;omega
 trans h g:=qar.2 ((qar.1 h).trans (qar.1 g))
theorem qgf{α:Type}[DecidableEq α](t:α):∀(U H:List α),uniA H (U++[t])=if t∈uniA H U then uniA H U else uniA H U++[t]
 | [],H=>by
  rfl
 | x::U,H=>by
  rw[BG,uniA,uniA]
  split
  ·exact qgf t U H
  ·exact qgf t U (H++[x])
def hasP(s p:De):Bool:=decide (p.size<=s.size)&&seq (s.extract 0 p.size) p
def plOk(pl:Int):Bool:=decide (0<=pl)&&decide (pl<=3)
def plT(pl:Int)(q:Q4):TM:=q.at pl.toNat
theorem qmh:plOk pl=true↔0<=pl/\pl<=3:=by grind [plOk]
theorem qzz:plOk pl=false↔pl<0\/3<pl:=by
 grind [qmh]
def begQ(pl:Int)(pre:De)(q:Q4):Bool:=decide ((plT pl q).kind=1)&&hasP (plT pl q).text pre
def begL(pl:Int)(pre:De)(p:Q4)(qs:List Q4):Do:=(qal p qs).filter λi=>plOk pl&&begQ pl pre (qs.getD i zQ)
def tatL(pl:Int)(p:Q4)(qs:List Q4):List TM:=(qal p qs).map λi=>plT pl (qs.getD i zQ)
def tasL(pl:Int)(p:Q4)(qs:List Q4):List TM:=if plOk pl=true then qc7 cmpT (tatL pl p qs)else[]
theorem qkm(p:Q4)(qs:List Q4):(qal p qs).length<=qs.length:=by
 grind [q3q]
theorem q66(pl:Int)(pre:De)(p:Q4)(qs:List Q4):(begL pl pre p qs).length<=qs.length:=A6 (List.length_filter_le ..) (qkm p qs)
theorem q67(pre:De)(p:Q4)(qs:List Q4)(h:plOk pl=false):begL pl pre p qs=[]:=by
 rw[begL,h];simp
def fltI(f:Nat->Bool)(l:Do)(k:Nat):Do:=(l.take k).filter f
theorem qac5{f:Nat->Bool}{l:Do}(H:l[k]?=some i)(U:f i=true):fltI f l (k+1)=fltI f l k++[i]:=by
 grind [fltI,List.take_add_one]
theorem qyc{α:Type}{c:α->α->Int}(t:α):∀L:List α,(insC c t L).length<=L.length+1
 | []=>Ao _
 | x::L=>by
  have:=qyc (c:=c) t L;rw[insC]
  split
  ·simpa using this
  ·split<;>simp
theorem qyb{α:Type}{c:α->α->Int}(_:OrdC c)(H:List α):(qc7 c H).length<=H.length:=by
 suffices h:∀(n:Nat) (H:List α),H.length=n->(qc7 c H).length<=n from h _ H rfl
 intro n
 induction n with
 | zero=>intro H h;obtain rfl:=AK h;exact Ao _
 | succ n Z=>
  intro H h;obtain⟨U,u,rfl⟩:∃U u,H=U++[u]:=⟨H.dropLast,H.getLast (by grind),(List.dropLast_concat_getLast _).symm⟩
  grind [qyc,qc7]
def cntB(f:Nat->Bool)(l:Do)(k:Nat):Nat:=((l.take k).filter f).length
theorem q2k(f:Nat->Bool)(l:Do):cntB f l l.length=(l.filter f).length:=by grind [cntB]
theorem q2l{f:Nat->Bool}{l:Do}(H:l[k]?=some i)(U:f i=true):cntB f l (k+1)=cntB f l k+1:=by
 grind [cntB,List.take_add_one]
theorem qw6{f:Nat->Bool}{l:Do}(H:l[k]?=some i)(U:f i=false):cntB f l (k+1)=cntB f l k:=by
 grind [cntB,List.take_add_one]
theorem qr1{f:Nat->Bool}{l:Do}(H:l[k]?=some i)(U:f i=true):(l.filter f)[cntB f l k]?=some i:=by
 grind [List.drop_eq_getElem_cons,List.take_append_drop,cntB]
theorem q7i{f:Nat->Bool}{l:Do}(H:l[k]?=some i)(U:f i=true):cntB f l k<(l.filter f).length:=by
 grind [qr1]
theorem q21:Dp.underlying 47=some (.struct (Dp.fieldsOf 47)):=by kernel_rfl
theorem q9y:Dp.stoodInHeld 47=false:=by kernel_rfl
theorem q72:Dp.eqGuardType Dp.depth 47=false:=by kernel_rfl
def qcs(a b:Q4):Bool:=qx a.s b.s&&(qx a.p b.p&&(qx a.o b.o&&qx a.g b.g))
theorem qoo{a b:Q4}:qcs a b=true↔a=b:=by
 obtain⟨H,U,Z,a3⟩:=a;obtain⟨b0,b1,b2,b3⟩:=b;simp[qcs,ql]
theorem qe2(d:Nat)(a b:Q4)(w:Dd):(Op.equalIn (d+3) 47 (qw a) (qw b)).run Dp w=.ok (qcs a b) w:=by
 have a3:=Tryz.isAgg45;have z3:=Tryz.sizeOf45;simp only[qw];rw[run_equalIn_agg w (d+2) _ _ _ q21 q9y];simp only[Program.fieldsOf,Tryz.underlying47];have e1:=qas d a.s b.s w;have e2:=qas d a.p b.p w;have e3:=qas d a.o b.o w;have e4:=qas d a.g b.g w;simp only[qr]at e1 e2 e3 e4;clear e1 e2 e3 e4
 go_simp
 have e:∀x y:De,(x.toList=y.toList)=(seq x y=true):=λx y=>by rw[<-qj7,C8]
 simp only[e]
 by_cases H:a.s.kind=b.s.kind
 rotate_left
 ·simp[qcs,qx,H]
 by_cases Z:seq a.s.text b.s.text=true
 rotate_left
 ·simp[qcs,qx,H,Z]
 by_cases h3:seq a.s.type b.s.type=true
 rotate_left
 ·simp[qcs,qx,H,Z,h3]
 by_cases h4:seq a.s.lang b.s.lang=true
 rotate_left
 ·simp[qcs,qx,H,Z,h3,h4]
 by_cases h5:a.p.kind=b.p.kind
 rotate_left
 ·simp[qcs,qx,H,Z,h3,h4,h5]
 by_cases h6:seq a.p.text b.p.text=true
 rotate_left
 ·simp[qcs,qx,H,Z,h3,h4,h5,h6]
 by_cases h7:seq a.p.type b.p.type=true
 rotate_left
 ·simp[qcs,qx,H,Z,h3,h4,h5,h6,h7]
 by_cases h8:seq a.p.lang b.p.lang=true
 rotate_left
 ·simp[qcs,qx,H,Z,h3,h4,h5,h6,h7,h8]
 by_cases h9:a.o.kind=b.o.kind
 rotate_left
 ·simp[qcs,qx,H,Z,h3,h4,h5,h6,h7,h8,h9]
 by_cases U:seq a.o.text b.o.text=true
 rotate_left
 ·simp[qcs,qx,H,Z,h3,h4,h5,h6,h7,h8,h9,U]
 by_cases aa:seq a.o.type b.o.type=true
 rotate_left
 ·simp[qcs,qx,H,Z,h3,h4,h5,h6,h7,h8,h9,U,aa]
 by_cases ab:seq a.o.lang b.o.lang=true
 rotate_left
 ·simp[qcs,qx,H,Z,h3,h4,h5,h6,h7,h8,h9,U,aa,ab]
 by_cases ac:a.g.kind=b.g.kind
 rotate_left
 ·simp[qcs,qx,H,Z,h3,h4,h5,h6,h7,h8,h9,U,aa,ab,ac]
 by_cases ad:seq a.g.text b.g.text=true
 rotate_left
 ·simp[qcs,qx,H,Z,h3,h4,h5,h6,h7,h8,h9,U,aa,ab,ac,ad]
 by_cases ae:seq a.g.type b.g.type=true
 rotate_left
 ·simp[qcs,qx,H,Z,h3,h4,h5,h6,h7,h8,h9,U,aa,ab,ac,ad,ae]
 by_cases af:seq a.g.lang b.g.lang=true
 rotate_left
 ·simp[qcs,qx,H,Z,h3,h4,h5,h6,h7,h8,h9,U,aa,ab,ac,ad,ae,af]
 simp[qcs,qx,H,Z,h3,h4,h5,h6,h7,h8,h9,U,aa,ab,ac,ad,ae,af]
namespace V
end V
namespace V
theorem Fall.copy{c:Call}{a b:Di}(ho:o.op=.call c)(hc:c.callee=.builtin .copy)(Z:evs ρ c.args.toList=[a,b])(v:Di)(w':Dd)(H:(Builtin.copy_ c.argTypes o.type #[a,b]).run P w=.ok v w')(hk:K v w'):Fall P (execOp (ev ρ) o) w K:=by
 have he:execOp (ev ρ) o=(do pure (.value (<-Builtin.copy_ c.argTypes o.type (c.args.map (ev ρ))))):=by
  simp only[execOp,ho,resolve,hc];rfl
 have U:c.args.map (ev ρ)=#[a,b]:=by
  rw[qcz]at Z;rw[<-Bs];simpa using Z
 rw[he,U];exact⟨.inl ⟨v,w',by rw[Sem.run_bind,H];rfl,hk⟩⟩
end V
theorem qlh{x:Int}{d n:Nat}(h:x=(n:Int)):bnd (some (ii x)) d n:=by
 subst h;rfl
end Go.Proofs.YtccmcfpmknpccaaGreatDoor
