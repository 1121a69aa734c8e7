/- Lemmas and contracts of functions on the way to the law's card (part 10 of 13). -/
import Derived.Test.YtajgbepghniciaaGreatDoorPV9
import Derived.Lib.ReplaceLaws
import Derived.LaidEql
import Derived.Stop.Asserts
import Derived.RowKitTokens
namespace Go.Proofs.YtajgbepghniciaaGreatDoor
open Go.RowKit V
set_option maxRecDepth 100000
theorem qgh {α:Type} (enc:α→List Value) (size:Nat) (henc:∀ x,(enc x).length=size):∀ (l:List α) (j:Nat) (x:α) (k:Nat),l[j]?=some x→k<size→((l.map enc).flatten)[j*size+k]?=(enc x)[k]?
 | [],j,x,k,h,_=>by simp at h
 | y::l,0,x,k,h,hk=>by
  simp only [List.getElem?_cons_zero,Option.some.injEq] at h;subst h;simp only [List.map_cons,List.flatten_cons,Nat.zero_mul,Nat.zero_add];rw [List.getElem?_append_left (by rw [henc];exact hk)]
 | y::l,j+1,x,k,h,hk=>by
  simp only [List.getElem?_cons_succ] at h;simp only [List.map_cons,List.flatten_cons];rw [List.getElem?_append_right (by rw [henc,Nat.succ_mul];omega),henc,show (j+1)*size+k-size=j*size+k by rw [Nat.succ_mul];omega];exact qgh enc size henc l j x k h hk
theorem qb7 {α:Type} {enc:α→List Value} {size n c base:Nat} {e:TypeId} {A:Option Addr} {w:World} {l:List α} (henc:∀ x,(enc x).length=size) (h:w.ownsRow base e size (.slice A n c) n (l.map enc).flatten) (hn:l.length=n) :
  SlAt enc size w A l∧n≤c:=by
 obtain ⟨h1,⟨h2,h3⟩|⟨g,cap,cur,h2,_,h3,h4,_,h5,h6⟩⟩:=h
 ·subst h3;refine ⟨⟨fun hne=>absurd (List.eq_nil_of_length_eq_zero hn) hne⟩,Nat.zero_le _⟩
 ·cases h2;refine ⟨⟨fun _=>⟨g,0,rfl,fun j x hx k v hv=>?_⟩⟩,h4⟩;have hk:k<size:=by
   have:=(List.getElem?_eq_some_iff.1 hv).1
   rwa [henc] at this
  have hj:j<n:=by rw [← hn];exact (List.getElem?_eq_some_iff.1 hx).1
  have hjk:j*size+k<n*size:=by
   have:(j+1)*size≤n*size:=Nat.mul_le_mul_right _ hj;rw [Nat.succ_mul] at this;omega
  rw [qd h3,Nat.zero_add,← hv,← qgh enc size henc l j x k hx hk,← h6,List.getElem?_take,if_pos hjk];simp
theorem qby (t:TM):(encT t).length=4:=rfl
def qav (out:List TM) (x:TM):List TM:=
 match out.getLast? with
 | some z=>bif qbb z x then out else out++[x]
 | none=>out++[x]
def mrgN:Nat→List TM→List TM→List TM→List TM
 | 0,_,_,out=>out
 | f+1,a,b,out=>
  match a,b with
  | [],[]=>out
  | x::a,[]=>mrgN f a [] (qav out x)
  | [],y::b=>mrgN f [] b (qav out y)
  | x::a,y::b=>if cmpT x y≤0 then mrgN f a (y::b) (qav out x) else mrgN f (x::a) b (qav out y)
def tmsN:Nat→List TM→List TM
 | 0,l=>l
 | f+1,l=>if l.length<2 then l else mrgN ((tmsN f (l.take (l.length/2))).length+(tmsN f (l.drop (l.length/2))).length) (tmsN f (l.take (l.length/2))) (tmsN f (l.drop (l.length/2))) []
theorem qhs (out:List TM) (x:TM):(qav out x).length≤out.length+1:=by
 unfold qav
 split
 ·cases qbb _ x<;>simp
 ·simp
theorem qie:∀ (f:Nat) (a b out:List TM),(mrgN f a b out).length≤a.length+b.length+out.length
 | 0,a,b,out=>by rw [mrgN];omega
 | f+1,a,b,out=>by
  unfold mrgN
  split
  ·omega
  ·rename_i x a
   have:=qie f a [] (qav out x);have:=qhs out x;simp only [List.length_cons] at *;omega
  ·rename_i y b
   have:=qie f [] b (qav out y);have:=qhs out y;simp only [List.length_cons] at *;omega
  ·rename_i x a y b
   split
   ·have:=qie f a (y::b) (qav out x);have:=qhs out x;simp only [List.length_cons] at *;omega
   ·have:=qie f (x::a) b (qav out y);have:=qhs out y;simp only [List.length_cons] at *;omega
theorem qlk:∀ (f:Nat) (l:List TM),(tmsN f l).length≤l.length
 | 0,l=>Nat.le_refl _
 | f+1,l=>by
  rw [tmsN]
  split
  ·exact Nat.le_refl _
  ·have h1:=qlk f (l.take (l.length/2));have h2:=qlk f (l.drop (l.length/2));refine Nat.le_trans (qie _ _ _ _) ?_;rw [List.length_take] at h1;rw [List.length_drop] at h2;simp only [List.length_nil];omega
def TmR (l:List TM) (v:Value) (w:World):Prop:=∃ B d,v=.slice B l.length d∧l.length≤d∧SlAt encT 4 w B l
theorem TmR.ext {l:List TM} (v:Value) (w w':World) (h:TmR l v w) (he:Ext w w'):TmR l v w':=by
 obtain ⟨B,d,h1,h2,h3⟩:=h;exact ⟨B,d,h1,h2,h3.ext he⟩
theorem qh5 {α:Type} (enc:α→List Value) (size:Nat) (henc:∀ x,(enc x).length=size) (l:List α):((l.map enc).flatten).length=l.length*size:=by
 induction l with
 | nil=>simp
 | cons x l ih=>simp only [List.map_cons,List.flatten_cons,List.length_append,henc,ih,List.length_cons,Nat.succ_mul];omega
theorem qkc {α:Type} {enc:α→List Value} {size:Nat} (hsz:0<size) (henc:∀ x,(enc x).length=size) {w:World} {b off:Nat} {l:List α} (h:∀ (j:Nat) x,l[j]?=some x→CellsAt w b (off+j*size) (enc x)):CellsAt w b off (l.map enc).flatten:=by
 intro k v hv;have hk:=(List.getElem?_eq_some_iff.1 hv).1;rw [qh5 enc size henc] at hk;have hj:k/size<l.length:=(Nat.div_lt_iff_lt_mul hsz).2 hk;have hx:=List.getElem?_eq_getElem hj;have hm:=Nat.mod_lt k hsz;have he:=qgh enc size henc l (k/size) _ (k%size) hx hm;rw [show k/size*size+k%size=k from by rw [Nat.mul_comm];exact Nat.div_add_mod k size] at he;rw [he] at hv;have:=h (k/size) _ hx (k%size) v hv
 rwa [show off+k/size*size+k%size=off+k from by rw [Nat.add_assoc,show k/size*size+k%size=k from by rw [Nat.mul_comm];exact Nat.div_add_mod k size]] at this
theorem qf3 (l:List TM) (A:Option Addr) (c:Nat) (w:World) (h2:l.length<2) (hS:SlAt encT 4 w A l) :
  Gv Tryz.prog 118 [.slice A l.length c] w fun v w'=>TmR l v w'∧Ext w w':=by
 refine zE Tryz.func118 Tryz.ntmps118 ?_;(conv=>whnf);refine zY (fun _=>?_);(conv=>whnf);refine ⟨fun nb w1 hb hw=>?_⟩;have he1:Ext w w1:=by rw [hw];exact (Ext.refl _).alloc _
 have hg:w1.heap[nb]?=some (.cells #[] 73 (0,0)):=by rw [hw,hb];exact heap_alloc_new w _
 have hR:Rw w w1 (.slice (some ⟨nb,0,none⟩) 0 0) 73 4 0 [] []:=⟨(Mem.nil w).call he1,⟨rfl,.inr ⟨nb,0,#[],rfl,by omega,hg,Nat.le_refl _,Nat.zero_le _,rfl,rfl⟩⟩,fun x hx=>by simp at hx⟩
 (conv=>whnf);refine AppV.rw (m:=l.length) (news:=(l.map encT).flatten) qhm trmI trmZ (by kernel_rfl) (by kernel_rfl) (by decide) hR (qh5 encT 4 qby l) (fun hne=>?_) ?_ (by rw [show ((Tryz.prog.info? 73).get (by kernel_rfl)).bytes=56 from by kernel_rfl];omega) (by omega) ?_
 ·obtain ⟨b,off,h3,h4⟩:=hS.at_ (by intro e;subst e;exact hne rfl);exact ⟨b,off,h3,(qkc (by decide) qby h4).ext he1⟩
 ·intro u hu;obtain ⟨x,hx,hux⟩:=List.mem_flatten.1 hu;obtain ⟨t,_,rfl⟩:=List.mem_map.1 hx;exact qy t u hux
 intro B d w2 hR2;(conv=>whnf);have e:0+l.length=l.length:=Nat.zero_add _;rw [e] at hR2 ⊢;obtain ⟨h3,h4⟩:=qb7 qby hR2.own rfl;exact ⟨⟨B,d,rfl,h4,h3⟩,hR2.mem.ext⟩
theorem qyr {x y:TM} {a b out:List TM} (h:cmpT x y≤0):mrgN ((x::a).length+(y::b).length) (x::a) (y::b) out=mrgN (a.length+(y::b).length) a (y::b) (qav out x):=by
 rw [show (x::a).length+(y::b).length=(a.length+(y::b).length)+1 by simp;omega,mrgN,if_pos h]
theorem qyq {x y:TM} {a b out:List TM} (h:¬cmpT x y≤0):mrgN ((x::a).length+(y::b).length) (x::a) (y::b) out=mrgN ((x::a).length+b.length) (x::a) b (qav out y):=by
 rw [show (x::a).length+(y::b).length=((x::a).length+b.length)+1 by simp;omega,mrgN,if_neg h]
theorem V.SlAt.pop {w:World} {A:Option Addr} {x:TM} {a l:List TM} {c:Nat} (h:SlAt encT 4 w A l) (e:l=x::a) (hc:l.length≤c) :
  (∃ g o,A=some ⟨g,o,none⟩∧CellsAt w g (o+0*4) (encT x))∧SlAt encT 4 w (if c=1 then A else A.map (·.add (1*4))) a:=by
 subst e;obtain ⟨g,o,h1,h2⟩:=h.at_ (by simp);refine ⟨⟨g,o,h1,h2 0 x rfl⟩,?_⟩;have:=h.cut (lo:=1) (hi:=(x::a).length) (m:=c) (by simp) (Nat.le_refl _) hc rfl;have e:((x::a).drop 1).take ((x::a).length-1)=a:=by show a.take a.length=a;exact List.take_length
 rwa [e] at this
structure MgG where
 a:List TM
 A:Option Addr
 ca:Nat
 b:List TM
 B:Option Addr
 cb:Nat
 out:List TM
 O:Option Addr
 co:Nat
set_option maxHeartbeats 4000000 in
theorem qod:∀ (n:Nat) (l:List TM) (A:Option Addr) (c:Nat) (w:World),l.length≤n→SlAt encT 4 w A l→l.length≤c→l.length≤16777216→
  Gv Tryz.prog 118 [.slice A l.length c] w fun v w'=>TmR (tmsN n l) v w'∧Ext w w':=by
 intro n
 induction n with
 | zero=>
  intro l A c w hn hS hc hl;exact qf3 l A c w (by omega) hS
 | succ n ih=>
  intro l A c w hn hS hc hl
  by_cases h2:l.length<2
  ·rw [tmsN,if_pos h2];exact qf3 l A c w h2 hS
  have et:tmsN (n+1) l=mrgN ((tmsN n (l.take (l.length/2))).length+(tmsN n (l.drop (l.length/2))).length) (tmsN n (l.take (l.length/2))) (tmsN n (l.drop (l.length/2))) []:=by rw [tmsN,if_neg h2]
  rw [et];have hla:(l.take (l.length/2)).length=l.length/2:=by rw [List.length_take];omega
  have hlb:(l.drop (l.length/2)).length=l.length-l.length/2:=List.length_drop ..;have hSa:=hS.cut (lo:=0) (hi:=l.length/2) (m:=c) (by omega) (by omega) (by omega) rfl;have hSb:=hS.cut (lo:=l.length/2) (hi:=l.length) (m:=c) (by omega) (by omega) (by omega) rfl;rw [List.drop_zero,Nat.sub_zero] at hSa;rw [List.take_of_length_le (by rw [hlb];exact Nat.le_refl _)] at hSb;have iha:=fun w' h=>ih (l.take (l.length/2)) (if c=0 then A else A.map (·.add (0*4))) c w' (by omega) h (by omega) (by omega)
  have ihb:=fun w' h=>ih (l.drop (l.length/2)) (if c=l.length/2 then A else A.map (·.add (l.length/2*4))) (c-l.length/2) w' (by omega) h (by omega) (by omega)
  rw [hla] at iha;rw [hlb] at ihb;have tla:=qlk n (l.take (l.length/2));have tlb:=qlk n (l.drop (l.length/2));obtain ⟨ta,eta⟩:∃ ta,ta=tmsN n (l.take (l.length/2)):=⟨_,rfl⟩
  obtain ⟨tb,etb⟩:∃ tb,tb=tmsN n (l.drop (l.length/2)):=⟨_,rfl⟩
  rw [← eta] at iha tla ⊢;rw [← etb] at ihb tlb ⊢;rw [hla] at tla;rw [hlb] at tlb;clear et eta etb ih;refine zE Tryz.func118 Tryz.ntmps118 ?_;(conv=>whnf);refine zN (fun _=>?_);(conv=>whnf);refine DrawV.free (by kernel_rfl) (by kernel_rfl) ?_;(conv=>whnf);refine zD ?_;(conv=>whnf);refine zD ?_;(conv=>whnf);refine zD ?_;(conv=>whnf);refine zD ?_ (by intro wd hd;(conv=>whnf);(refine zB ?_;(conv=>whnf));exact ⟨Ext.refl _,rfl⟩);(conv=>whnf);apply StepD.still (.slice (if c=0 then A else A.map (·.add (0*4))) (l.length/2) c)
  ·intro wd hd;(conv=>whnf);refine SliceV.to 0 (l.length/2) c rfl rfl rfl (by omega) (by omega) (Nat.le_refl _) (fun h=>by cases h) ?_;rw [show tsz Tryz.prog 73=4 from by kernel_rfl];exact ⟨Ext.refl _,rfl⟩
  (conv=>whnf);apply StepD.of (TmR ta) TmR.ext
  ·intro wd hd;(conv=>whnf);refine CallV.of (iha wd (hSa.ext ((Ext.refl w).drew.trans hd))) ?_;rintro v w5 ⟨h1,h2⟩;exact ⟨h2,h1⟩
  (conv=>whnf);refine zD ?_;(conv=>whnf);refine zD ?_;(conv=>whnf);refine zD ?_;(conv=>whnf);refine zD ?_ (by intro wd hd;(conv=>whnf);(refine zB ?_;(conv=>whnf));exact ⟨Ext.refl _,rfl⟩);(conv=>whnf);apply StepD.still (.slice (if c=l.length/2 then A else A.map (·.add (l.length/2*4))) (l.length-l.length/2) (c-l.length/2))
  ·intro wd hd;(conv=>whnf);refine SliceV.to (l.length/2) l.length c rfl rfl rfl (by omega) (by omega) (Nat.le_refl _) (fun h=>by cases h) ?_;rw [show tsz Tryz.prog 73=4 from by kernel_rfl];exact ⟨Ext.refl _,rfl⟩
  (conv=>whnf);apply StepD.of (TmR tb) TmR.ext
  ·intro wd hd;conv=>whnf
   repeat (intro _ _;(conv=>whnf))
   refine CallV.of (ihb wd (hSb.ext ((Ext.refl w).drew.trans hd))) ?_;rintro v w5 ⟨h1,h2⟩;exact ⟨h2,h1⟩
  (conv=>whnf);apply StepD.of (TmR ta) TmR.ext
  ·intro wd hd;conv=>whnf
   repeat (rintro _ ⟨_,_,rfl,_,_⟩;(conv=>whnf))
   exact ⟨Ext.refl _,_,_,rfl,by assumption,by assumption⟩
  (conv=>whnf);apply StepD.of (TmR tb) TmR.ext
  ·intro wd hd;conv=>whnf
   repeat (rintro _ ⟨_,_,rfl,_,_⟩;(conv=>whnf))
   exact ⟨Ext.refl _,_,_,rfl,by assumption,by assumption⟩
  (conv=>whnf);intro w4 he;(conv=>whnf);rintro _ ⟨B1,b1,rfl,hb1,hb2⟩;(conv=>whnf);rintro _ ⟨A1,a1,rfl,ha1,ha2⟩;(conv=>whnf);intro _ _;(conv=>whnf);intro _ _;(conv=>whnf);clear iha ihb hSa hSb;have hw4:Ext w w4:=(Ext.refl w).drew.trans he;refine qm (fun x:MgG=>[(3,.slice x.A x.a.length x.ca),(4,.slice x.B x.b.length x.cb),(5,.slice x.O x.out.length x.co)])
   (fun x w'=>SlAt encT 4 w4 x.A x.a∧x.a.length≤x.ca∧SlAt encT 4 w4 x.B x.b∧x.b.length≤x.cb∧Rw w4 w' (.slice x.O x.out.length x.co) 73 4 x.out.length (x.out.map encT).flatten []∧mrgN (x.a.length+x.b.length) x.a x.b x.out=mrgN (ta.length+tb.length) ta tb []∧x.a.length+x.b.length+x.out.length≤16777216)
   (fun x=>x.a.length+x.b.length) ⟨ta,A1,a1,tb,B1,b1,[],none,0⟩ ⟨rfl,rfl,rfl,trivial⟩ ⟨ha2,ha1,hb2,hb1,Rw.nil (Mem.nil w4),rfl,by simp only [List.length_nil];omega⟩ ?_
  obtain ⟨res,hres⟩:∃ res,res=mrgN (ta.length+tb.length) ta tb []:=⟨_,rfl⟩
  rw [← hres];clear ha2 ha1 hb2 hb1 tla tlb;rintro ⟨a,A,ca,b,B,cb,out,O,co⟩ w5 ρ' ⟨hSa,hca,hSb,hcb,hR,hmr,hle⟩;dsimp only at hSa hca hSb hcb hR hmr hle ⊢;obtain ⟨na,ha⟩|⟨x,a',ea⟩:(a.length=0∧a=[])∨∃ x a',a=x::a':=by
   rcases a with _|⟨x,a'⟩
   ·exact .inl ⟨rfl,rfl⟩
   ·exact .inr ⟨x,a',rfl⟩
  ·obtain ⟨nb,hb⟩|⟨y,b',eb⟩:(b.length=0∧b=[])∨∃ y b',b=y::b':=by
    rcases b with _|⟨y,b'⟩
    ·exact .inl ⟨rfl,rfl⟩
    ·exact .inr ⟨y,b',rfl⟩
   ·(conv=>whnf);refine zN (fun _=>?_);(conv=>whnf);(iterate 3 (refine zU ?_;(conv=>whnf)));refine zN (fun _=>?_);(conv=>whnf);rw [ha,hb] at hmr;obtain ⟨h3,h4⟩:=qb7 qby hR.own rfl;exact ⟨⟨O,co,by rw [← hmr];rfl,by rw [← hmr];exact h4,by rw [← hmr];exact h3⟩,hw4.trans hR.mem.ext⟩
   ·have nb:b.length=b'.length+1:=by rw [eb];rfl
    obtain ⟨⟨gb,ob,eB,hxb⟩,hSb'⟩:=hSb.pop eb hcb;subst eB;(conv=>whnf);refine zN (fun _=>?_);(conv=>whnf);(iterate 3 (refine zU ?_;(conv=>whnf)));refine zY (fun _=>?_);(conv=>whnf);refine NewV.rw hR ?_;clear hR;intro tp w6 hR;(conv=>whnf);refine DrawV.free (by kernel_rfl) (by kernel_rfl) ?_;(conv=>whnf);refine zD ?_;(conv=>whnf);refine zD ?_;(conv=>whnf);refine zD ?_;(conv=>whnf);refine zD ?_;(conv=>whnf);refine zD ?_ (by intro wd hd;(conv=>whnf);(refine zN (fun _=>?_);(conv=>whnf));exact ⟨Ext.refl _,rfl⟩);(conv=>whnf);refine zD ?_ (by intro wd hd;(conv=>whnf);(refine zN (fun _=>?_);(conv=>whnf));exact ⟨Ext.refl _,rfl⟩);(conv=>whnf);refine zD ?_ (by intro wd hd;(conv=>whnf);(refine zN (fun _=>?_);(conv=>whnf));exact ⟨Ext.refl _,rfl⟩);(conv=>whnf);refine zD ?_ (by intro wd hd;(conv=>whnf);(refine zN (fun _=>?_);(conv=>whnf));exact ⟨Ext.refl _,rfl⟩);(conv=>whnf);refine zD ?_ (by intro wd hd;(conv=>whnf);(refine zN (fun _=>?_);(conv=>whnf));exact ⟨Ext.refl _,rfl⟩);(conv=>whnf);refine zD ?_ (by intro wd hd;(conv=>whnf);(refine zN (fun _=>?_);(conv=>whnf));exact ⟨Ext.refl _,rfl⟩);(conv=>whnf);refine zD ?_ (by intro wd hd;(conv=>whnf);(refine zN (fun _=>?_);(conv=>whnf));exact ⟨Ext.refl _,rfl⟩);(conv=>whnf);refine zD ?_ (by intro wd hd;(conv=>whnf);(refine zN (fun _=>?_);(conv=>whnf));exact ⟨Ext.refl _,rfl⟩);(conv=>whnf);refine zD ?_ (by intro wd hd;(conv=>whnf);(refine zN (fun _=>?_);(conv=>whnf));exact ⟨Ext.refl _,rfl⟩);(conv=>whnf);refine zD ?_ (by intro wd hd;(conv=>whnf);(refine zN (fun _=>?_);(conv=>whnf));exact ⟨Ext.refl _,rfl⟩);(conv=>whnf);refine zD ?_ (by intro wd hd;(conv=>whnf);(refine zN (fun _=>?_);(conv=>whnf));exact ⟨Ext.refl _,rfl⟩);(conv=>whnf);refine zD ?_ (by intro wd hd;(conv=>whnf);(refine zN (fun _=>?_);(conv=>whnf));exact ⟨Ext.refl _,rfl⟩);(conv=>whnf);refine zD ?_ (by intro wd hd;(conv=>whnf);((iterate 2 (refine zN (fun _=>?_);(conv=>whnf))));exact ⟨Ext.refl _,rfl⟩);(conv=>whnf);refine zD ?_ (by intro wd hd;(conv=>whnf);(refine zN (fun _=>?_);(conv=>whnf));exact ⟨Ext.refl _,rfl⟩);(conv=>whnf);intro w7 he7;have hR:=hR.drew.call he7;(conv=>whnf);refine zU ?_;(conv=>whnf);refine ⟨⟨gb,ob,0,rfl,by omega,by omega,?_⟩⟩;(conv=>whnf);refine LoadA.cells (CellsAt.ext hxb hR.mem.ext) rfl ?_;(conv=>whnf);refine StoreA.rwAll hR rfl (qy y) ?_;clear hR;intro w8 hR;(conv=>whnf);refine SliceV.to 1 b.length cb rfl rfl rfl (by omega) (by omega) (Nat.le_refl _) (fun h=>by cases h) ?_;rw [show tsz Tryz.prog 73=4 from by kernel_rfl];(conv=>whnf);have hmr:mrgN (a.length+b'.length) a b' (qav out y)=res:=by
     rw [← hmr];subst ha eb;rw [show ([]:List TM).length+(y::b').length=(([]:List TM).length+b'.length)+1 by simp];rfl
    rcases hout:out.getLast? with _|z
    ·have hon:out=[]:=List.getLast?_eq_none_iff.1 hout;have ho0:out.length=0:=by rw [hon];rfl
     have hpu:qav out y=out++[y]:=by rw [qav,hout]
     have hR:=hR.drew;refine DrawV.quiet (by kernel_rfl) (by kernel_rfl) ?_;(conv=>whnf);(iterate 4 (refine zW ?_;(conv=>whnf)));refine zY (fun _=>?_);(conv=>whnf);(iterate 8 (refine zT ?_;(conv=>whnf)));refine zW ?_;(conv=>whnf);refine zT ?_;(conv=>whnf);refine zL hR.mem 0 ?_;(conv=>whnf);refine NewV.rw hR ?_;clear hR;intro nb' w17 hR;(conv=>whnf);refine AppV.rw (m:=1) (news:=encT y) qhm trmI trmZ (by kernel_rfl) (by kernel_rfl) (by decide) hR rfl (fun _=>⟨nb',0,rfl,fun k v hv=>?_⟩) (qy y) (by rw [show ((Tryz.prog.info? 73).get (by kernel_rfl)).bytes=56 from by kernel_rfl];omega) (by omega) ?_
     ·rw [qd (hR.mem.get (List.mem_cons_self ..)),Nat.zero_add];rw [List.getElem?_toArray];exact hv
     clear hR;intro B2 c2 w18 hR;have hR:Rw w4 w18 (.slice B2 (out++[y]).length c2) 73 4 (out++[y]).length ((out++[y]).map encT).flatten []:=by
      have e:((out++[y]).map encT).flatten=(out.map encT).flatten++encT y:=by simp
      rw [e,List.length_append];exact hR.tail.tail
     (conv=>whnf);rw [hpu] at hmr;refine ⟨⟨a,A,ca,b',if cb=1 then some ⟨gb,ob,none⟩ else (some (⟨gb,ob,none⟩:Addr)).map (·.add (1*4)),cb-1,(out++[y]),B2,c2⟩,⟨rfl,by show Value.slice _ (b.length-1) _=Value.slice _ b'.length _;rw [nb];rfl,?_,trivial⟩,⟨hSa,hca,hSb',by simp only;omega,hR,hmr,?_⟩,?_⟩
     ·first|rfl|(show Value.slice _ (out.length+1) _=Value.slice _ (out++[_]).length _;rw [List.length_append];rfl)
     ·simp only [List.length_append,List.length_singleton];omega
     ·simp only;omega
    ·obtain ⟨ho1,ho2⟩:=qb7 qby hR.own rfl;have hon:out≠[]:=by intro e;rw [e] at hout;cases hout
     have hop:0<out.length:=List.length_pos_iff.2 hon;have hz:out[out.length-1]?=some z:=by rw [← hout,List.getLast?_eq_getElem?]
     obtain ⟨go,oo,eO,hco⟩:=ho1.at_ hon;subst eO;have hcz:=hco (out.length-1) z hz;refine DrawV.quiet (by kernel_rfl) (by kernel_rfl) ?_;(conv=>whnf);(iterate 4 (refine zW ?_;(conv=>whnf)));refine zN (fun _=>?_);(conv=>whnf);(iterate 3 (refine zW ?_;(conv=>whnf);refine zU ?_;(conv=>whnf)));refine zA ?_;(conv=>whnf);refine zW ?_;(conv=>whnf);refine zU ?_;(conv=>whnf);refine ⟨⟨go,oo,out.length-1,rfl,by omega,by omega,?_⟩⟩;(conv=>whnf);refine zW ?_;(conv=>whnf);refine zU ?_;(conv=>whnf);refine LoadA.cells (CellsAt.ext hcz (Ext.refl _).drew) rfl ?_;(conv=>whnf);refine zW ?_;(conv=>whnf);refine zU ?_;(conv=>whnf);refine zL hR.mem.drew 0 ?_;(conv=>whnf);refine zW ?_;(conv=>whnf);refine zU ?_;(conv=>whnf);refine RunV.eqTerm (a:=z) (b:=y) (.inr rfl) ?_;cases hzx:qbb z y
     ·have hpu:qav out y=out++[y]:=by rw [qav,hout];simp only [hzx,cond_false]
      have hR:=hR.drew;(conv=>whnf);refine zW ?_;(conv=>whnf);refine zU ?_;(conv=>whnf);refine zW ?_;(conv=>whnf);refine Tst.yes rfl ?_;(conv=>whnf);refine zL hR.mem 0 ?_;(conv=>whnf);refine NewV.rw hR ?_;clear hR;intro nb' w17 hR;(conv=>whnf);refine AppV.rw (m:=1) (news:=encT y) qhm trmI trmZ (by kernel_rfl) (by kernel_rfl) (by decide) hR rfl (fun _=>⟨nb',0,rfl,fun k v hv=>?_⟩) (qy y) (by rw [show ((Tryz.prog.info? 73).get (by kernel_rfl)).bytes=56 from by kernel_rfl];omega) (by omega) ?_
      ·rw [qd (hR.mem.get (List.mem_cons_self ..)),Nat.zero_add];rw [List.getElem?_toArray];exact hv
      clear hR;intro B2 c2 w18 hR;have hR:Rw w4 w18 (.slice B2 (out++[y]).length c2) 73 4 (out++[y]).length ((out++[y]).map encT).flatten []:=by
       have e:((out++[y]).map encT).flatten=(out.map encT).flatten++encT y:=by simp
       rw [e,List.length_append];exact hR.tail.tail
      (conv=>whnf);rw [hpu] at hmr;refine ⟨⟨a,A,ca,b',if cb=1 then some ⟨gb,ob,none⟩ else (some (⟨gb,ob,none⟩:Addr)).map (·.add (1*4)),cb-1,(out++[y]),B2,c2⟩,⟨rfl,by show Value.slice _ (b.length-1) _=Value.slice _ b'.length _;rw [nb];rfl,?_,trivial⟩,⟨hSa,hca,hSb',by simp only;omega,hR,hmr,?_⟩,?_⟩
      ·first|rfl|(show Value.slice _ (out.length+1) _=Value.slice _ (out++[_]).length _;rw [List.length_append];rfl)
      ·simp only [List.length_append,List.length_singleton];omega
      ·simp only;omega
     ·have hpu:qav out y=out:=by rw [qav,hout];simp only [hzx,cond_true]
      (conv=>whnf);refine zW ?_;(conv=>whnf);refine zU ?_;(conv=>whnf);refine zW ?_;(conv=>whnf);refine Tst.no rfl ?_;(conv=>whnf);rw [hpu] at hmr;refine ⟨⟨a,A,ca,b',if cb=1 then some ⟨gb,ob,none⟩ else (some (⟨gb,ob,none⟩:Addr)).map (·.add (1*4)),cb-1,out,some ⟨go,oo,none⟩,co⟩,⟨rfl,by show Value.slice _ (b.length-1) _=Value.slice _ b'.length _;rw [nb];rfl,?_,trivial⟩,⟨hSa,hca,hSb',by simp only;omega,hR.tail.drew,hmr,?_⟩,?_⟩
      ·first|rfl|(show Value.slice _ (out.length+1) _=Value.slice _ (out++[_]).length _;rw [List.length_append];rfl)
      ·simp only;omega
      ·simp only;omega
  ·have na:a.length=a'.length+1:=by rw [ea];rfl
   obtain ⟨⟨ga,oa,eA,hxa⟩,hSa'⟩:=hSa.pop ea hca;subst eA;obtain ⟨nb,hb⟩|⟨y,b',eb⟩:(b.length=0∧b=[])∨∃ y b',b=y::b':=by
    rcases b with _|⟨y,b'⟩
    ·exact .inl ⟨rfl,rfl⟩
    ·exact .inr ⟨y,b',rfl⟩
   ·(conv=>whnf);refine zY (fun _=>?_);(conv=>whnf);(iterate 4 (refine zT ?_;(conv=>whnf)));refine NewV.rw hR ?_;clear hR;intro tp w6 hR;(conv=>whnf);refine DrawV.free (by kernel_rfl) (by kernel_rfl) ?_;(conv=>whnf);refine zD ?_;(conv=>whnf);refine zD ?_;(conv=>whnf);refine zD ?_;(conv=>whnf);refine zD ?_;(conv=>whnf);refine zD ?_ (by intro wd hd;(conv=>whnf);(refine zY (fun _=>?_);(conv=>whnf));exact ⟨Ext.refl _,rfl⟩);(conv=>whnf);refine zD ?_ (by intro wd hd;(conv=>whnf);(refine zY (fun _=>?_);(conv=>whnf));exact ⟨Ext.refl _,rfl⟩);(conv=>whnf);refine zD ?_ (by intro wd hd;(conv=>whnf);(refine zY (fun _=>?_);(conv=>whnf));exact ⟨Ext.refl _,rfl⟩);(conv=>whnf);refine zD ?_ (by intro wd hd;(conv=>whnf);(refine zY (fun _=>?_);(conv=>whnf));exact ⟨Ext.refl _,rfl⟩);(conv=>whnf);refine zD ?_;(conv=>whnf);refine zD ?_;(conv=>whnf);refine zD ?_;(conv=>whnf);refine zD ?_;(conv=>whnf);refine zD ?_;(conv=>whnf);refine zD ?_;(conv=>whnf);refine zD ?_;(conv=>whnf);refine zD ?_;(conv=>whnf);refine zD ?_ (by intro wd hd;(conv=>whnf);(refine zY (fun _=>?_);(conv=>whnf));exact ⟨Ext.refl _,rfl⟩);(conv=>whnf);refine zD ?_ (by intro wd hd;(conv=>whnf);(refine zY (fun _=>?_);(conv=>whnf));exact ⟨Ext.refl _,rfl⟩);(conv=>whnf);intro w7 he7;have hR:=hR.drew.call he7;(conv=>whnf);refine zT ?_;(conv=>whnf);refine ⟨⟨ga,oa,0,rfl,by omega,by omega,?_⟩⟩;(conv=>whnf);refine LoadA.cells (CellsAt.ext hxa hR.mem.ext) rfl ?_;(conv=>whnf);refine StoreA.rwAll hR rfl (qy x) ?_;clear hR;intro w8 hR;(conv=>whnf);refine SliceV.to 1 a.length ca rfl rfl rfl (by omega) (by omega) (Nat.le_refl _) (fun h=>by cases h) ?_;rw [show tsz Tryz.prog 73=4 from by kernel_rfl];(conv=>whnf);have hmr:mrgN (a'.length+b.length) a' b (qav out x)=res:=by
     rw [← hmr];subst hb ea;rw [show (x::a').length+([]:List TM).length=(a'.length+([]:List TM).length)+1 by simp];rfl
    rcases hout:out.getLast? with _|z
    ·have hon:out=[]:=List.getLast?_eq_none_iff.1 hout;have ho0:out.length=0:=by rw [hon];rfl
     have hpu:qav out x=out++[x]:=by rw [qav,hout]
     have hR:=hR.drew;refine DrawV.quiet (by kernel_rfl) (by kernel_rfl) ?_;(conv=>whnf);(iterate 4 (refine zW ?_;(conv=>whnf)));refine zY (fun _=>?_);(conv=>whnf);(iterate 8 (refine zT ?_;(conv=>whnf)));refine zW ?_;(conv=>whnf);refine zT ?_;(conv=>whnf);refine zL hR.mem 0 ?_;(conv=>whnf);refine NewV.rw hR ?_;clear hR;intro nb' w17 hR;(conv=>whnf);refine AppV.rw (m:=1) (news:=encT x) qhm trmI trmZ (by kernel_rfl) (by kernel_rfl) (by decide) hR rfl (fun _=>⟨nb',0,rfl,fun k v hv=>?_⟩) (qy x) (by rw [show ((Tryz.prog.info? 73).get (by kernel_rfl)).bytes=56 from by kernel_rfl];omega) (by omega) ?_
     ·rw [qd (hR.mem.get (List.mem_cons_self ..)),Nat.zero_add];rw [List.getElem?_toArray];exact hv
     clear hR;intro B2 c2 w18 hR;have hR:Rw w4 w18 (.slice B2 (out++[x]).length c2) 73 4 (out++[x]).length ((out++[x]).map encT).flatten []:=by
      have e:((out++[x]).map encT).flatten=(out.map encT).flatten++encT x:=by simp
      rw [e,List.length_append];exact hR.tail.tail
     (conv=>whnf);rw [hpu] at hmr;refine ⟨⟨a',if ca=1 then some ⟨ga,oa,none⟩ else (some (⟨ga,oa,none⟩:Addr)).map (·.add (1*4)),ca-1,b,B,cb,(out++[x]),B2,c2⟩,⟨by show Value.slice _ (a.length-1) _=Value.slice _ a'.length _;rw [na];rfl,rfl,?_,trivial⟩,⟨hSa',by simp only;omega,hSb,hcb,hR,hmr,?_⟩,?_⟩
     ·first|rfl|(show Value.slice _ (out.length+1) _=Value.slice _ (out++[_]).length _;rw [List.length_append];rfl)
     ·simp only [List.length_append,List.length_singleton];omega
     ·simp only;omega
    ·obtain ⟨ho1,ho2⟩:=qb7 qby hR.own rfl;have hon:out≠[]:=by intro e;rw [e] at hout;cases hout
     have hop:0<out.length:=List.length_pos_iff.2 hon;have hz:out[out.length-1]?=some z:=by rw [← hout,List.getLast?_eq_getElem?]
     obtain ⟨go,oo,eO,hco⟩:=ho1.at_ hon;subst eO;have hcz:=hco (out.length-1) z hz;refine DrawV.quiet (by kernel_rfl) (by kernel_rfl) ?_;(conv=>whnf);(iterate 4 (refine zW ?_;(conv=>whnf)));refine zN (fun _=>?_);(conv=>whnf);(iterate 3 (refine zW ?_;(conv=>whnf);refine zU ?_;(conv=>whnf)));refine zA ?_;(conv=>whnf);refine zW ?_;(conv=>whnf);refine zU ?_;(conv=>whnf);refine ⟨⟨go,oo,out.length-1,rfl,by omega,by omega,?_⟩⟩;(conv=>whnf);refine zW ?_;(conv=>whnf);refine zU ?_;(conv=>whnf);refine LoadA.cells (CellsAt.ext hcz (Ext.refl _).drew) rfl ?_;(conv=>whnf);refine zW ?_;(conv=>whnf);refine zU ?_;(conv=>whnf);refine zL hR.mem.drew 0 ?_;(conv=>whnf);refine zW ?_;(conv=>whnf);refine zU ?_;(conv=>whnf);refine RunV.eqTerm (a:=z) (b:=x) (.inr rfl) ?_;cases hzx:qbb z x
     ·have hpu:qav out x=out++[x]:=by rw [qav,hout];simp only [hzx,cond_false]
      have hR:=hR.drew;(conv=>whnf);refine zW ?_;(conv=>whnf);refine zU ?_;(conv=>whnf);refine zW ?_;(conv=>whnf);refine Tst.yes rfl ?_;(conv=>whnf);refine zL hR.mem 0 ?_;(conv=>whnf);refine NewV.rw hR ?_;clear hR;intro nb' w17 hR;(conv=>whnf);refine AppV.rw (m:=1) (news:=encT x) qhm trmI trmZ (by kernel_rfl) (by kernel_rfl) (by decide) hR rfl (fun _=>⟨nb',0,rfl,fun k v hv=>?_⟩) (qy x) (by rw [show ((Tryz.prog.info? 73).get (by kernel_rfl)).bytes=56 from by kernel_rfl];omega) (by omega) ?_
      ·rw [qd (hR.mem.get (List.mem_cons_self ..)),Nat.zero_add];rw [List.getElem?_toArray];exact hv
      clear hR;intro B2 c2 w18 hR;have hR:Rw w4 w18 (.slice B2 (out++[x]).length c2) 73 4 (out++[x]).length ((out++[x]).map encT).flatten []:=by
       have e:((out++[x]).map encT).flatten=(out.map encT).flatten++encT x:=by simp
       rw [e,List.length_append];exact hR.tail.tail
      (conv=>whnf);rw [hpu] at hmr;refine ⟨⟨a',if ca=1 then some ⟨ga,oa,none⟩ else (some (⟨ga,oa,none⟩:Addr)).map (·.add (1*4)),ca-1,b,B,cb,(out++[x]),B2,c2⟩,⟨by show Value.slice _ (a.length-1) _=Value.slice _ a'.length _;rw [na];rfl,rfl,?_,trivial⟩,⟨hSa',by simp only;omega,hSb,hcb,hR,hmr,?_⟩,?_⟩
      ·first|rfl|(show Value.slice _ (out.length+1) _=Value.slice _ (out++[_]).length _;rw [List.length_append];rfl)
      ·simp only [List.length_append,List.length_singleton];omega
      ·simp only;omega
     ·have hpu:qav out x=out:=by rw [qav,hout];simp only [hzx,cond_true]
      (conv=>whnf);refine zW ?_;(conv=>whnf);refine zU ?_;(conv=>whnf);refine zW ?_;(conv=>whnf);refine Tst.no rfl ?_;(conv=>whnf);rw [hpu] at hmr;refine ⟨⟨a',if ca=1 then some ⟨ga,oa,none⟩ else (some (⟨ga,oa,none⟩:Addr)).map (·.add (1*4)),ca-1,b,B,cb,out,some ⟨go,oo,none⟩,co⟩,⟨by show Value.slice _ (a.length-1) _=Value.slice _ a'.length _;rw [na];rfl,rfl,?_,trivial⟩,⟨hSa',by simp only;omega,hSb,hcb,hR.tail.drew,hmr,?_⟩,?_⟩
      ·first|rfl|(show Value.slice _ (out.length+1) _=Value.slice _ (out++[_]).length _;rw [List.length_append];rfl)
      ·simp only;omega
      ·simp only;omega
   ·have nb:b.length=b'.length+1:=by rw [eb];rfl
    obtain ⟨⟨gb,ob,eB,hxb⟩,hSb'⟩:=hSb.pop eb hcb;subst eB
    by_cases hxy:cmpT x y≤0
    ·(conv=>whnf);refine zY (fun _=>?_);(conv=>whnf);(iterate 4 (refine zT ?_;(conv=>whnf)));refine NewV.rw hR ?_;clear hR;intro tp w6 hR;(conv=>whnf);refine DrawV.free (by kernel_rfl) (by kernel_rfl) ?_;(conv=>whnf);refine zD ?_;(conv=>whnf);refine zD ?_;(conv=>whnf);refine zD ?_;(conv=>whnf);refine zD ?_;(conv=>whnf);refine zD ?_ (by intro wd hd;(conv=>whnf);(refine zN (fun _=>?_);(conv=>whnf));exact ⟨Ext.refl _,rfl⟩);(conv=>whnf);refine zD ?_ (by intro wd hd;(conv=>whnf);(refine zN (fun _=>?_);(conv=>whnf));exact ⟨Ext.refl _,rfl⟩);(conv=>whnf);refine zD ?_ (by intro wd hd;(conv=>whnf);(refine zN (fun _=>?_);(conv=>whnf));exact ⟨Ext.refl _,rfl⟩);(conv=>whnf);refine zD ?_ (by intro wd hd;(conv=>whnf);(refine zN (fun _=>?_);(conv=>whnf));exact ⟨Ext.refl _,rfl⟩);(conv=>whnf);refine zD ?_ (by intro wd hd;(conv=>whnf);(refine zY (fun _=>?_);(conv=>whnf));exact ⟨Ext.refl _,rfl⟩);(conv=>whnf);refine zD ?_ (by intro wd hd;(conv=>whnf);(refine zY (fun _=>?_);(conv=>whnf));refine ⟨⟨ga,oa,0,rfl,by omega,by omega,?_⟩⟩;exact ⟨Ext.refl _,rfl⟩);(conv=>whnf);apply StepD.still (qa2 x)
     ·intro wd hd;(conv=>whnf);refine zY (fun _=>?_);(conv=>whnf);refine LoadA.cells (CellsAt.ext hxa ((hR.mem.ext.trans (Ext.refl w6).drew).trans hd)) rfl ?_;(conv=>whnf);exact ⟨Ext.refl _,rfl⟩
     (conv=>whnf);refine zD ?_ (by intro wd hd;(conv=>whnf);(refine zY (fun _=>?_);(conv=>whnf));exact ⟨Ext.refl _,rfl⟩);(conv=>whnf);refine zD ?_ (by intro wd hd;(conv=>whnf);(refine zY (fun _=>?_);(conv=>whnf));refine ⟨⟨gb,ob,0,rfl,by omega,by omega,?_⟩⟩;exact ⟨Ext.refl _,rfl⟩);(conv=>whnf);apply StepD.still (qa2 y)
     ·intro wd hd;(conv=>whnf);refine zY (fun _=>?_);(conv=>whnf);refine LoadA.cells (CellsAt.ext hxb ((hR.mem.ext.trans (Ext.refl w6).drew).trans hd)) rfl ?_;(conv=>whnf);exact ⟨Ext.refl _,rfl⟩
     (conv=>whnf);apply StepD.still (.int .i64 (cmpT x y))
     ·intro wd hd;(conv=>whnf);refine zY (fun _=>?_);(conv=>whnf);refine CallV.of (qfc x y wd) ?_;rintro v w7 ⟨rfl,h7⟩;exact ⟨h7,rfl⟩
     (conv=>whnf);refine zD ?_ (by intro wd hd;(conv=>whnf);(refine zY (fun _=>?_);(conv=>whnf));exact ⟨Ext.refl _,rfl⟩);(conv=>whnf);refine zD ?_ (by intro wd hd;(conv=>whnf);(refine zN (fun _=>?_);(conv=>whnf);refine zY (fun _=>?_);(conv=>whnf));exact ⟨Ext.refl _,rfl⟩);(conv=>whnf);refine zD ?_ (by intro wd hd;(conv=>whnf);(refine zN (fun _=>?_);(conv=>whnf));exact ⟨Ext.refl _,rfl⟩);(conv=>whnf);intro w7 he7;have hR:=hR.drew.call he7;(conv=>whnf);refine zY (fun _=>?_);(conv=>whnf);refine ⟨⟨ga,oa,0,rfl,by omega,by omega,?_⟩⟩;(conv=>whnf);refine LoadA.cells (CellsAt.ext hxa hR.mem.ext) rfl ?_;(conv=>whnf);refine StoreA.rwAll hR rfl (qy x) ?_;clear hR;intro w8 hR;(conv=>whnf);refine SliceV.to 1 a.length ca rfl rfl rfl (by omega) (by omega) (Nat.le_refl _) (fun h=>by cases h) ?_;rw [show tsz Tryz.prog 73=4 from by kernel_rfl];(conv=>whnf);have hmr:mrgN (a'.length+b.length) a' b (qav out x)=res:=by
      rw [← hmr];subst ea eb;exact (qyr hxy).symm
     rcases hout:out.getLast? with _|z
     ·have hon:out=[]:=List.getLast?_eq_none_iff.1 hout;have ho0:out.length=0:=by rw [hon];rfl
      have hpu:qav out x=out++[x]:=by rw [qav,hout]
      have hR:=hR.drew;refine DrawV.quiet (by kernel_rfl) (by kernel_rfl) ?_;(conv=>whnf);(iterate 4 (refine zW ?_;(conv=>whnf)));refine zY (fun _=>?_);(conv=>whnf);(iterate 8 (refine zT ?_;(conv=>whnf)));refine zW ?_;(conv=>whnf);refine zT ?_;(conv=>whnf);refine zL hR.mem 0 ?_;(conv=>whnf);refine NewV.rw hR ?_;clear hR;intro nb' w17 hR;(conv=>whnf);refine AppV.rw (m:=1) (news:=encT x) qhm trmI trmZ (by kernel_rfl) (by kernel_rfl) (by decide) hR rfl (fun _=>⟨nb',0,rfl,fun k v hv=>?_⟩) (qy x) (by rw [show ((Tryz.prog.info? 73).get (by kernel_rfl)).bytes=56 from by kernel_rfl];omega) (by omega) ?_
      ·rw [qd (hR.mem.get (List.mem_cons_self ..)),Nat.zero_add];rw [List.getElem?_toArray];exact hv
      clear hR;intro B2 c2 w18 hR;have hR:Rw w4 w18 (.slice B2 (out++[x]).length c2) 73 4 (out++[x]).length ((out++[x]).map encT).flatten []:=by
       have e:((out++[x]).map encT).flatten=(out.map encT).flatten++encT x:=by simp
       rw [e,List.length_append];exact hR.tail.tail
      (conv=>whnf);rw [hpu] at hmr;refine ⟨⟨a',if ca=1 then some ⟨ga,oa,none⟩ else (some (⟨ga,oa,none⟩:Addr)).map (·.add (1*4)),ca-1,b,some ⟨gb,ob,none⟩,cb,(out++[x]),B2,c2⟩,⟨by show Value.slice _ (a.length-1) _=Value.slice _ a'.length _;rw [na];rfl,rfl,?_,trivial⟩,⟨hSa',by simp only;omega,hSb,hcb,hR,hmr,?_⟩,?_⟩
      ·first|rfl|(show Value.slice _ (out.length+1) _=Value.slice _ (out++[_]).length _;rw [List.length_append];rfl)
      ·simp only [List.length_append,List.length_singleton];omega
      ·simp only;omega
     ·obtain ⟨ho1,ho2⟩:=qb7 qby hR.own rfl;have hon:out≠[]:=by intro e;rw [e] at hout;cases hout
      have hop:0<out.length:=List.length_pos_iff.2 hon;have hz:out[out.length-1]?=some z:=by rw [← hout,List.getLast?_eq_getElem?]
      obtain ⟨go,oo,eO,hco⟩:=ho1.at_ hon;subst eO;have hcz:=hco (out.length-1) z hz;refine DrawV.quiet (by kernel_rfl) (by kernel_rfl) ?_;(conv=>whnf);(iterate 4 (refine zW ?_;(conv=>whnf)));refine zN (fun _=>?_);(conv=>whnf);(iterate 3 (refine zW ?_;(conv=>whnf);refine zU ?_;(conv=>whnf)));refine zA ?_;(conv=>whnf);refine zW ?_;(conv=>whnf);refine zU ?_;(conv=>whnf);refine ⟨⟨go,oo,out.length-1,rfl,by omega,by omega,?_⟩⟩;(conv=>whnf);refine zW ?_;(conv=>whnf);refine zU ?_;(conv=>whnf);refine LoadA.cells (CellsAt.ext hcz (Ext.refl _).drew) rfl ?_;(conv=>whnf);refine zW ?_;(conv=>whnf);refine zU ?_;(conv=>whnf);refine zL hR.mem.drew 0 ?_;(conv=>whnf);refine zW ?_;(conv=>whnf);refine zU ?_;(conv=>whnf);refine RunV.eqTerm (a:=z) (b:=x) (.inr rfl) ?_;cases hzx:qbb z x
      ·have hpu:qav out x=out++[x]:=by rw [qav,hout];simp only [hzx,cond_false]
       have hR:=hR.drew;(conv=>whnf);refine zW ?_;(conv=>whnf);refine zU ?_;(conv=>whnf);refine zW ?_;(conv=>whnf);refine Tst.yes rfl ?_;(conv=>whnf);refine zL hR.mem 0 ?_;(conv=>whnf);refine NewV.rw hR ?_;clear hR;intro nb' w17 hR;(conv=>whnf);refine AppV.rw (m:=1) (news:=encT x) qhm trmI trmZ (by kernel_rfl) (by kernel_rfl) (by decide) hR rfl (fun _=>⟨nb',0,rfl,fun k v hv=>?_⟩) (qy x) (by rw [show ((Tryz.prog.info? 73).get (by kernel_rfl)).bytes=56 from by kernel_rfl];omega) (by omega) ?_
       ·rw [qd (hR.mem.get (List.mem_cons_self ..)),Nat.zero_add];rw [List.getElem?_toArray];exact hv
       clear hR;intro B2 c2 w18 hR;have hR:Rw w4 w18 (.slice B2 (out++[x]).length c2) 73 4 (out++[x]).length ((out++[x]).map encT).flatten []:=by
        have e:((out++[x]).map encT).flatten=(out.map encT).flatten++encT x:=by simp
        rw [e,List.length_append];exact hR.tail.tail
       (conv=>whnf);rw [hpu] at hmr;refine ⟨⟨a',if ca=1 then some ⟨ga,oa,none⟩ else (some (⟨ga,oa,none⟩:Addr)).map (·.add (1*4)),ca-1,b,some ⟨gb,ob,none⟩,cb,(out++[x]),B2,c2⟩,⟨by show Value.slice _ (a.length-1) _=Value.slice _ a'.length _;rw [na];rfl,rfl,?_,trivial⟩,⟨hSa',by simp only;omega,hSb,hcb,hR,hmr,?_⟩,?_⟩
       ·first|rfl|(show Value.slice _ (out.length+1) _=Value.slice _ (out++[_]).length _;rw [List.length_append];rfl)
       ·simp only [List.length_append,List.length_singleton];omega
       ·simp only;omega
      ·have hpu:qav out x=out:=by rw [qav,hout];simp only [hzx,cond_true]
       (conv=>whnf);refine zW ?_;(conv=>whnf);refine zU ?_;(conv=>whnf);refine zW ?_;(conv=>whnf);refine Tst.no rfl ?_;(conv=>whnf);rw [hpu] at hmr;refine ⟨⟨a',if ca=1 then some ⟨ga,oa,none⟩ else (some (⟨ga,oa,none⟩:Addr)).map (·.add (1*4)),ca-1,b,some ⟨gb,ob,none⟩,cb,out,some ⟨go,oo,none⟩,co⟩,⟨by show Value.slice _ (a.length-1) _=Value.slice _ a'.length _;rw [na];rfl,rfl,?_,trivial⟩,⟨hSa',by simp only;omega,hSb,hcb,hR.tail.drew,hmr,?_⟩,?_⟩
       ·first|rfl|(show Value.slice _ (out.length+1) _=Value.slice _ (out++[_]).length _;rw [List.length_append];rfl)
       ·simp only;omega
       ·simp only;omega
    ·(conv=>whnf);refine zY (fun _=>?_);(conv=>whnf);(iterate 4 (refine zT ?_;(conv=>whnf)));refine NewV.rw hR ?_;clear hR;intro tp w6 hR;(conv=>whnf);refine DrawV.free (by kernel_rfl) (by kernel_rfl) ?_;(conv=>whnf);refine zD ?_;(conv=>whnf);refine zD ?_;(conv=>whnf);refine zD ?_;(conv=>whnf);refine zD ?_;(conv=>whnf);refine zD ?_ (by intro wd hd;(conv=>whnf);(refine zN (fun _=>?_);(conv=>whnf));exact ⟨Ext.refl _,rfl⟩);(conv=>whnf);refine zD ?_ (by intro wd hd;(conv=>whnf);(refine zN (fun _=>?_);(conv=>whnf));exact ⟨Ext.refl _,rfl⟩);(conv=>whnf);refine zD ?_ (by intro wd hd;(conv=>whnf);(refine zN (fun _=>?_);(conv=>whnf));exact ⟨Ext.refl _,rfl⟩);(conv=>whnf);refine zD ?_ (by intro wd hd;(conv=>whnf);(refine zN (fun _=>?_);(conv=>whnf));exact ⟨Ext.refl _,rfl⟩);(conv=>whnf);refine zD ?_ (by intro wd hd;(conv=>whnf);(refine zY (fun _=>?_);(conv=>whnf));exact ⟨Ext.refl _,rfl⟩);(conv=>whnf);refine zD ?_ (by intro wd hd;(conv=>whnf);(refine zY (fun _=>?_);(conv=>whnf));refine ⟨⟨ga,oa,0,rfl,by omega,by omega,?_⟩⟩;exact ⟨Ext.refl _,rfl⟩);(conv=>whnf);apply StepD.still (qa2 x)
     ·intro wd hd;(conv=>whnf);refine zY (fun _=>?_);(conv=>whnf);refine LoadA.cells (CellsAt.ext hxa ((hR.mem.ext.trans (Ext.refl w6).drew).trans hd)) rfl ?_;(conv=>whnf);exact ⟨Ext.refl _,rfl⟩
     (conv=>whnf);refine zD ?_ (by intro wd hd;(conv=>whnf);(refine zY (fun _=>?_);(conv=>whnf));exact ⟨Ext.refl _,rfl⟩);(conv=>whnf);refine zD ?_ (by intro wd hd;(conv=>whnf);(refine zY (fun _=>?_);(conv=>whnf));refine ⟨⟨gb,ob,0,rfl,by omega,by omega,?_⟩⟩;exact ⟨Ext.refl _,rfl⟩);(conv=>whnf);apply StepD.still (qa2 y)
     ·intro wd hd;(conv=>whnf);refine zY (fun _=>?_);(conv=>whnf);refine LoadA.cells (CellsAt.ext hxb ((hR.mem.ext.trans (Ext.refl w6).drew).trans hd)) rfl ?_;(conv=>whnf);exact ⟨Ext.refl _,rfl⟩
     (conv=>whnf);apply StepD.still (.int .i64 (cmpT x y))
     ·intro wd hd;(conv=>whnf);refine zY (fun _=>?_);(conv=>whnf);refine CallV.of (qfc x y wd) ?_;rintro v w7 ⟨rfl,h7⟩;exact ⟨h7,rfl⟩
     (conv=>whnf);refine zD ?_ (by intro wd hd;(conv=>whnf);(refine zY (fun _=>?_);(conv=>whnf));exact ⟨Ext.refl _,rfl⟩);(conv=>whnf);refine zD ?_ (by intro wd hd;(conv=>whnf);(refine zN (fun _=>?_);(conv=>whnf);refine zY (fun _=>?_);(conv=>whnf));exact ⟨Ext.refl _,rfl⟩);(conv=>whnf);refine zD ?_ (by intro wd hd;(conv=>whnf);(refine zN (fun _=>?_);(conv=>whnf));exact ⟨Ext.refl _,rfl⟩);(conv=>whnf);intro w7 he7;have hR:=hR.drew.call he7;(conv=>whnf);refine zN (fun _=>?_);(conv=>whnf);refine ⟨⟨gb,ob,0,rfl,by omega,by omega,?_⟩⟩;(conv=>whnf);refine LoadA.cells (CellsAt.ext hxb hR.mem.ext) rfl ?_;(conv=>whnf);refine StoreA.rwAll hR rfl (qy y) ?_;clear hR;intro w8 hR;(conv=>whnf);refine SliceV.to 1 b.length cb rfl rfl rfl (by omega) (by omega) (Nat.le_refl _) (fun h=>by cases h) ?_;rw [show tsz Tryz.prog 73=4 from by kernel_rfl];(conv=>whnf);have hmr:mrgN (a.length+b'.length) a b' (qav out y)=res:=by
      rw [← hmr];subst ea eb;exact (qyq hxy).symm
     rcases hout:out.getLast? with _|z
     ·have hon:out=[]:=List.getLast?_eq_none_iff.1 hout;have ho0:out.length=0:=by rw [hon];rfl
      have hpu:qav out y=out++[y]:=by rw [qav,hout]
      have hR:=hR.drew;refine DrawV.quiet (by kernel_rfl) (by kernel_rfl) ?_;(conv=>whnf);(iterate 4 (refine zW ?_;(conv=>whnf)));refine zY (fun _=>?_);(conv=>whnf);(iterate 8 (refine zT ?_;(conv=>whnf)));refine zW ?_;(conv=>whnf);refine zT ?_;(conv=>whnf);refine zL hR.mem 0 ?_;(conv=>whnf);refine NewV.rw hR ?_;clear hR;intro nb' w17 hR;(conv=>whnf);refine AppV.rw (m:=1) (news:=encT y) qhm trmI trmZ (by kernel_rfl) (by kernel_rfl) (by decide) hR rfl (fun _=>⟨nb',0,rfl,fun k v hv=>?_⟩) (qy y) (by rw [show ((Tryz.prog.info? 73).get (by kernel_rfl)).bytes=56 from by kernel_rfl];omega) (by omega) ?_
      ·rw [qd (hR.mem.get (List.mem_cons_self ..)),Nat.zero_add];rw [List.getElem?_toArray];exact hv
      clear hR;intro B2 c2 w18 hR;have hR:Rw w4 w18 (.slice B2 (out++[y]).length c2) 73 4 (out++[y]).length ((out++[y]).map encT).flatten []:=by
       have e:((out++[y]).map encT).flatten=(out.map encT).flatten++encT y:=by simp
       rw [e,List.length_append];exact hR.tail.tail
      (conv=>whnf);rw [hpu] at hmr;refine ⟨⟨a,some ⟨ga,oa,none⟩,ca,b',if cb=1 then some ⟨gb,ob,none⟩ else (some (⟨gb,ob,none⟩:Addr)).map (·.add (1*4)),cb-1,(out++[y]),B2,c2⟩,⟨rfl,by show Value.slice _ (b.length-1) _=Value.slice _ b'.length _;rw [nb];rfl,?_,trivial⟩,⟨hSa,hca,hSb',by simp only;omega,hR,hmr,?_⟩,?_⟩
      ·first|rfl|(show Value.slice _ (out.length+1) _=Value.slice _ (out++[_]).length _;rw [List.length_append];rfl)
      ·simp only [List.length_append,List.length_singleton];omega
      ·simp only;omega
     ·obtain ⟨ho1,ho2⟩:=qb7 qby hR.own rfl;have hon:out≠[]:=by intro e;rw [e] at hout;cases hout
      have hop:0<out.length:=List.length_pos_iff.2 hon;have hz:out[out.length-1]?=some z:=by rw [← hout,List.getLast?_eq_getElem?]
      obtain ⟨go,oo,eO,hco⟩:=ho1.at_ hon;subst eO;have hcz:=hco (out.length-1) z hz;refine DrawV.quiet (by kernel_rfl) (by kernel_rfl) ?_;(conv=>whnf);(iterate 4 (refine zW ?_;(conv=>whnf)));refine zN (fun _=>?_);(conv=>whnf);(iterate 3 (refine zW ?_;(conv=>whnf);refine zU ?_;(conv=>whnf)));refine zA ?_;(conv=>whnf);refine zW ?_;(conv=>whnf);refine zU ?_;(conv=>whnf);refine ⟨⟨go,oo,out.length-1,rfl,by omega,by omega,?_⟩⟩;(conv=>whnf);refine zW ?_;(conv=>whnf);refine zU ?_;(conv=>whnf);refine LoadA.cells (CellsAt.ext hcz (Ext.refl _).drew) rfl ?_;(conv=>whnf);refine zW ?_;(conv=>whnf);refine zU ?_;(conv=>whnf);refine zL hR.mem.drew 0 ?_;(conv=>whnf);refine zW ?_;(conv=>whnf);refine zU ?_;(conv=>whnf);refine RunV.eqTerm (a:=z) (b:=y) (.inr rfl) ?_;cases hzx:qbb z y
      ·have hpu:qav out y=out++[y]:=by rw [qav,hout];simp only [hzx,cond_false]
       have hR:=hR.drew;(conv=>whnf);refine zW ?_;(conv=>whnf);refine zU ?_;(conv=>whnf);refine zW ?_;(conv=>whnf);refine Tst.yes rfl ?_;(conv=>whnf);refine zL hR.mem 0 ?_;(conv=>whnf);refine NewV.rw hR ?_;clear hR;intro nb' w17 hR;(conv=>whnf);refine AppV.rw (m:=1) (news:=encT y) qhm trmI trmZ (by kernel_rfl) (by kernel_rfl) (by decide) hR rfl (fun _=>⟨nb',0,rfl,fun k v hv=>?_⟩) (qy y) (by rw [show ((Tryz.prog.info? 73).get (by kernel_rfl)).bytes=56 from by kernel_rfl];omega) (by omega) ?_
       ·rw [qd (hR.mem.get (List.mem_cons_self ..)),Nat.zero_add];rw [List.getElem?_toArray];exact hv
       clear hR;intro B2 c2 w18 hR;have hR:Rw w4 w18 (.slice B2 (out++[y]).length c2) 73 4 (out++[y]).length ((out++[y]).map encT).flatten []:=by
        have e:((out++[y]).map encT).flatten=(out.map encT).flatten++encT y:=by simp
        rw [e,List.length_append];exact hR.tail.tail
       (conv=>whnf);rw [hpu] at hmr;refine ⟨⟨a,some ⟨ga,oa,none⟩,ca,b',if cb=1 then some ⟨gb,ob,none⟩ else (some (⟨gb,ob,none⟩:Addr)).map (·.add (1*4)),cb-1,(out++[y]),B2,c2⟩,⟨rfl,by show Value.slice _ (b.length-1) _=Value.slice _ b'.length _;rw [nb];rfl,?_,trivial⟩,⟨hSa,hca,hSb',by simp only;omega,hR,hmr,?_⟩,?_⟩
       ·first|rfl|(show Value.slice _ (out.length+1) _=Value.slice _ (out++[_]).length _;rw [List.length_append];rfl)
       ·simp only [List.length_append,List.length_singleton];omega
       ·simp only;omega
      ·have hpu:qav out y=out:=by rw [qav,hout];simp only [hzx,cond_true]
       (conv=>whnf);refine zW ?_;(conv=>whnf);refine zU ?_;(conv=>whnf);refine zW ?_;(conv=>whnf);refine Tst.no rfl ?_;(conv=>whnf);rw [hpu] at hmr;refine ⟨⟨a,some ⟨ga,oa,none⟩,ca,b',if cb=1 then some ⟨gb,ob,none⟩ else (some (⟨gb,ob,none⟩:Addr)).map (·.add (1*4)),cb-1,out,some ⟨go,oo,none⟩,co⟩,⟨rfl,by show Value.slice _ (b.length-1) _=Value.slice _ b'.length _;rw [nb];rfl,?_,trivial⟩,⟨hSa,hca,hSb',by simp only;omega,hR.tail.drew,hmr,?_⟩,?_⟩
       ·first|rfl|(show Value.slice _ (out.length+1) _=Value.slice _ (out++[_]).length _;rw [List.length_append];rfl)
       ·simp only;omega
       ·simp only;omega
end Go.Proofs.YtajgbepghniciaaGreatDoor
namespace Go.Proofs.YtajgbepghniciaaGreatDoor
open Go.RowKit
namespace V
theorem qn1 {n:Nat} {ops:Array Oper} (hS:ShapeW n ops) {listed:Array Bool} (hsz:listed.size=ops.size) (hr:Region.ready .any ops listed=[]) (k:Nat) (hk:k<ops.size):listed.getD k false=true:=by
 induction k using Nat.strongRecOn with
 | _ k ih=>
  cases hv:listed.getD k false with
  | true=>rfl
  | false=>
   exfalso
   have hmem:k∈Region.ready .any ops listed:=by
    refine mem_ready.2 ⟨?_,ops[k],Array.getElem?_eq_getElem hk,fun e he hb=>?_⟩
    ·have:k<listed.size:=by omega
     simp [this] at hv ⊢;exact hv
    ·rw [qbx] at hb;have hp:e.on∈qu ops[k]:=qa3.2 ⟨e,by simpa using he,hb,rfl⟩;have h1:=hS.lt k _ (Array.getElem?_eq_getElem hk) _ hp;exact ih _ h1 (by omega)
   rw [hr] at hmem;cases hmem
theorem InvD.stepW {n:Nat} {ops:Array Oper} {E:List Ent} {w0 w w':World} {ρ:Nat→Value} {listed:Array Bool} {vals ρa:Nat→Value} {a:Act} {i:Nat} {o:Oper} {e:Ent} {v:Value} (hS:ShapeW n ops) (hl:E.length=ops.size)
  (hd:∀ (i:Nat) (o:Oper) (e:Ent),ops[i]?=some o→E[i]?=some e→EntOk e o) (hfree:∀ (k:Nat) (e:Ent),E[k]?=some e→∀ x w w',e.φ x w→e.φ x w')
  (I:InvD n E w0 ρ listed vals ρa a w) (hsz:listed.size=ops.size) (ho:ops[i]?=some o) (he:E[i]?=some e) (hun:listed.getD i false=false) (hx:Ext w0 w') (hφ:e.φ v w') :
  InvD n E w0 ρ (listed.setIfInBounds i true) (fun k=>if k=i then v else vals k) (match o.dst with|some d=>upd ρa d v|none=>ρa) (a.put o.dst v) w':=by
 have hio:i<ops.size:=(Array.getElem?_eq_some_iff.1 ho).1;have hok:=hd i o e ho he;have hlt:∀ (k:Nat) (e:Ent),E[k]?=some e→k<ops.size:=fun k e hk=>by
  rw [← hl]
  rcases Nat.lt_or_ge k E.length with h|h
  ·exact h
  ·rw [List.getElem?_eq_none h] at hk;cases hk
 have hgd:∀ k,(listed.setIfInBounds i true).getD k false=true→k=i∨(k≠i∧listed.getD k false=true):=fun k hk=>by
  by_cases hki:k=i
  ·exact .inl hki
  ·rw [getD_set_ne false (fun e=>hki e.symm)] at hk;exact .inr ⟨hki,hk⟩
 refine ⟨hx,?_,?_,?_,?_⟩
 ·cases hdd:o.dst with
  | none=>exact I.st
  | some d=>exact I.st.put (hS.dn i o ho d hdd) v
 ·intro k hk e' he'
  rcases hgd k hk with rfl|⟨hki,hk⟩
  ·rw [he] at he';cases he'
   simpa using hφ
  ·simp only [if_neg hki];exact hfree k e' he' _ _ _ (I.φ k hk e' he')
 ·intro k hk e' d he' hdd
  rcases hgd k hk with rfl|⟨hki,hk⟩
  ·rw [he] at he';cases he';rw [hok.d] at hdd;simp [hdd,qdk]
  ·simp only [if_neg hki];have hk':=hlt k e' he';have hd2:=(hd k _ e' (Array.getElem?_eq_getElem hk') he').d;cases ho2:o.dst with
   | none=>exact I.at_ k hk e' d he' hdd
   | some d2=>
    have hne:d≠d2:=by
     rintro rfl;exact hki (hS.uniq i o k _ d ho (Array.getElem?_eq_getElem hk') (hd2 ▸ hdd) ho2)
    simp only;rw [qam _ _ _ _ hne];exact I.at_ k hk e' d he' hdd
 ·intro t ht;have h1:ρa t=ρ t:=I.miss t fun k hk e' he'=>ht k (by
   by_cases hki:k=i
   ·subst hki;rw [hun] at hk;cases hk
   ·rw [getD_set_ne false (fun e=>hki e.symm)];exact hk) e' he'
  cases ho2:o.dst with
  | none=>exact h1
  | some d2=>
   have hne:t≠d2:=by
    rintro rfl;refine ht i ?_ e he (by rw [hok.d,ho2]);have:i<listed.size:=by omega
    simp [this]
   simp only;rw [qam _ _ _ _ hne];exact h1
section
variable {P:Program} {n:Nat} {ops:Array Oper} {w0:World} {E:List Ent} {ρ:Nat→Value}
theorem qr2 {I:(Nat→Bool)→(Nat→Value)→World→Prop} {Q:(Nat→Value)→World→Prop} {Q':Exit→Act→World→Prop} (hQ:∀ ρ a w,St n ρ a→Q ρ w→Q' .normal a w) (hS:ShapeW n ops) (hl:E.length=ops.size)
  (hE:∀ (i:Nat) (o:Oper) (e:Ent),ops[i]?=some o→E[i]?=some e→qxy P ops.toList I E ρ i o e) (hF:∃ es',AgreeG es' E∧∀ vals w,I (fun _=>true) vals w→Q (frG es' vals (sfr E ρ)) w) :
  ∀ (fuel:Nat) (listed:Array Bool) (vals ρa:Nat→Value) (a:Act) (w:World),listed.size=ops.size→listed.toList.count false≤fuel→(∀ k,listed.getD k false=true→∀ o,ops[k]?=some o→∀ j∈qu o,listed.getD j false=true)→InvD n E w0 ρ listed vals ρa a w0→I (fun j=>listed.getD j true) vals w→wpAny P .any ops Q' fuel listed a w:=by
 obtain ⟨ef,hA,hF⟩:=hF;have hd:∀ (i:Nat) (o:Oper) (e:Ent),ops[i]?=some o→E[i]?=some e→EntOk e o:=fun i o e h1 h2=>by
  obtain ⟨v,_,rfl,_⟩:=hE i o e h1 h2;refine ⟨rfl,fun _ _ _ h _=>h,fun c hc x w hx=>?_⟩;have hc:v=some c:=hc;subst hc;exact hx
 have hlt:∀ (k:Nat) (e:Ent),E[k]?=some e→k<ops.size:=fun k e hk=>by
  rw [← hl];exact (List.getElem?_eq_some_iff.1 hk).1
 have hfree:∀ (k:Nat) (e:Ent),E[k]?=some e→∀ x w w',e.φ x w→e.φ x w':=fun k e he x w w' h=>by
  have hk:=hlt k e he;obtain ⟨v,_,rfl,_⟩:=hE k _ e (Array.getElem?_eq_getElem hk) he;exact h
 have final:∀ (listed:Array Bool) (vals ρa:Nat→Value) (a:Act) (w:World),(∀ k,k<ops.size→listed.getD k false=true)→listed.size=ops.size→InvD n E w0 ρ listed vals ρa a w0→I (fun j=>listed.getD j true) vals w→Q' .normal a w:=fun listed vals ρa a w hall hsz D hI=>by
  have hT:(fun j=>listed.getD j true)=fun _=>true:=by
   funext j
   rcases Nat.lt_or_ge j listed.size with hj|hj
   ·rw [qbq hj];exact hall j (by omega)
   ·simp [Array.getElem?_eq_none hj]
  rw [hT] at hI;have he:frG ef vals (sfr E ρ)=ρa:=by
   funext t
   have:=qfh hd hl hS D E.length (ef.map (·.1)) t (fun k e hk hdt hki=>⟨hall k (hlt k e hk),fun hv=>by
    obtain ⟨d,v,φ⟩:=e;cases hv;cases hdt;exact hA.all k _ _ hk⟩) (fun k e hk _ _=>by rw [hl];exact hlt k e hk)
   rw [List.take_length,qpc _ _ hA.in_] at this;exact this
  exact hQ _ _ _ D.st (he ▸ hF vals w hI)
 intro fuel
 induction fuel with
 | zero=>
  intro listed vals ρa a w hsz hc hdc D hI;have hall:∀ k,k<ops.size→listed.getD k false=true:=fun k hk=>by
   have h1:=List.count_eq_zero.1 (show listed.toList.count false=0 by omega);have hk':k<listed.size:=by omega
   cases hv:listed[k] with
   | true=>simp [hk',hv]
   | false=>exact absurd (by rw [← hv];exact Array.mem_toList_iff.2 (Array.getElem_mem hk')) h1
  exact ⟨qfs fun k hk=>by rw [qbq (by omega)];exact hall k hk,final listed vals ρa a w hall hsz D hI⟩
 | succ fuel ih=>
  intro listed vals ρa a w hsz hc hdc D hI;refine ⟨fun hr=>final listed vals ρa a w (fun k hk=>qn1 hS hsz hr k hk) hsz D hI,fun i hi=>?_⟩;obtain ⟨hun,o,ho,hall⟩:=mem_ready.1 hi;have hio:i<ops.size:=(Array.getElem?_eq_some_iff.1 ho).1;have hnl:listed.getD i false=false:=by rw [← qbq (by omega)];exact hun
  have hpl:∀ k∈qu o,listed.getD k false=true:=fun k hk=>by
   obtain ⟨e,he,hb,hon⟩:=qa3.1 hk;rw [← hon];exact hall e (by simpa using he) (by rw [qbx];exact hb)
  have hiE:E[i]?=some E[i]:=List.getElem?_eq_getElem (by omega);obtain ⟨v,es,he,hAi,hspec⟩:=hE i o E[i] ho hiE;have hlp:∀ k∈qu o,listed.getD k true=true:=fun k hk=>by
   have:=hpl k hk
   rcases Nat.lt_or_ge k listed.size with hj|hj
   ·rw [qbq hj];exact this
   ·simp [Array.getElem?_eq_none hj]
  have h:=hspec (fun j=>listed.getD j true) vals w hun hlp hI;have hag:∀ t∈o.looksAt ops,frG es vals (sfr (E.take i) ρ) t=ρa t:=fun t ht=>by
   have hp:∀ (k:Nat) (e:Ent),E[k]?=some e→e.d=some t→k∈qu o∨(i<k∧listed.getD k false≠true):=fun k e hk hdt=>by
    have hk':=hlt k e hk
    rcases hS.look i o k ops[k] t ho (Array.getElem?_eq_getElem hk') ((hd k _ e (Array.getElem?_eq_getElem hk') hk).d ▸ hdt) ht with h|h
    ·exact .inl h
    ·refine .inr ⟨hS.lt k _ (Array.getElem?_eq_getElem hk') i h,fun hl=>?_⟩;have:=hdc k hl _ (Array.getElem?_eq_getElem hk') i h;rw [hnl] at this;cases this
   have:=qfh hd hl hS D i (es.map (·.1)) t (fun k e hk hdt hki=>by
    rcases hp k e hk hdt with h|h
    ·exact ⟨hpl k h,fun hv=>by
      obtain ⟨d,v,φ⟩:=e;cases hv;cases hdt;exact hAi.all k _ _ (by rw [List.getElem?_take,if_pos hki];exact hk)⟩
    ·omega) (fun k e hk hdt hlk=>by
    rcases hp k e hk hdt with h|h
    ·exact hS.lt i o ho k h
    ·exact absurd hlk h.2)
   rw [qpc _ _ hAi.in_] at this;exact this
  refine qjn ho hS D.st hag h fun v' w' ⟨hv,hI'⟩=>?_;have hset:(fun j=>(listed.setIfInBounds i true).getD j true)=setS (fun j=>listed.getD j true) i:=by
   funext j
   unfold setS
   by_cases hji:j=i
   ·subst hji;have:j<listed.size:=by omega
    simp [this]
   ·have:Nat.beq j i=false:=Bool.eq_false_iff.2 fun e=>hji (Nat.eq_of_beq_eq_true e)
    rw [this,getD_set_ne true (fun e=>hji e.symm)];rfl
  have hvals:(fun k=>if k=i then v' else vals k)=upd vals i v':=by
   funext k
   by_cases hk:k=i
   ·subst hk;simp [upd]
   ·rw [if_neg hk,qam _ _ _ _ hk]
  refine ih _ (upd vals i v') _ _ _ (by simp [hsz]) (by have:=qcf listed i hun;omega) (fun k hk o' ho' j hj=>by
   have hset:∀ j,listed.getD j false=true→(listed.setIfInBounds i true).getD j false=true:=fun j hj=>by
    by_cases hji:j=i
    ·subst hji;rw [hnl] at hj;cases hj
    ·rw [getD_set_ne false (fun e=>hji e.symm)];exact hj
   by_cases hki:k=i
   ·subst hki;rw [ho] at ho';cases ho';exact hset j (hpl j hj)
   ·rw [getD_set_ne false (fun e=>hki e.symm)] at hk;exact hset j (hdc k hk o' ho' j hj)) (hvals ▸ InvD.stepW (v:=v') hS hl hd hfree D hsz ho hiE hnl (Ext.refl _) (by rw [he];exact hv)) ?_
  rw [hset];exact hI'
end
theorem DrawV.genW {P:Program} {n id:Nat} {ops:Array Oper} {Q:Exit→(Nat→Value)→World→Prop} {ρ:Nat→Value} {w:World} (I:(Nat→Bool)→(Nat→Value)→World→Prop) (hm:P.follows .mixedOrders=true) (hB:qp0 n ops=true)
  (h0:∀ vals,I (fun j=>Nat.ble ops.size j) vals w.drew) (h:regG P ops.toList I (fun ρ' w'=>Q .normal ρ' w') ops.toList 0 [] ρ):DrawV P n id ops Q ρ w:=by
 refine ⟨fun a ha=>wp_region_any hm ?_⟩;obtain ⟨E,h1,h2,h3⟩:=qpr ops.toList [] [] ρ (AgreeG.mk (fun _ _ h=>by cases h) (fun _ _ _ h=>by simp at h)) h;refine qr2 (I:=I) (Q:=fun ρ' w'=>Q .normal ρ' w') (E:=E) (w0:=w.drew) (ρ:=ρ) (fun ρ a w h1 h2=>⟨ρ,h1,h2⟩) (qm2 hB) (by simpa using h1) (fun i o e ho he=>?_) (by simpa using h3) _ _ (fun _=>undef) ρ a _ (by simp) (by simp) (fun k hk=>by rw [qe] at hk;cases hk) ⟨Ext.refl _,ha,?_,?_,fun t _=>rfl⟩ ?_
 ·have:=h2 i o e (by simpa using ho) he
  simpa using this
 ·intro k hk;rw [qe] at hk;cases hk
 ·intro k hk;rw [qe] at hk;cases hk
 ·have:(fun j=>(Array.replicate ops.size false).getD j true)=fun j=>Nat.ble ops.size j:=by
   funext j
   rcases Nat.lt_or_ge j ops.size with hj|hj
   ·have h2:Nat.ble ops.size j=false:=Bool.eq_false_iff.2 fun e=>by have:=Nat.le_of_ble_eq_true e;omega
    simp [hj,h2]
   ·rw [Nat.ble_eq_true_of_le hj];simp [hj]
  rw [this];exact h0 _
end V
open Go.RowKit V
set_option maxRecDepth 100000
def ApI (w0:World) (e:TypeId) (size n m:Nat) (v0:Value) (xs news:List Value) (s1 s2 s3:Bool) (v1 v2 v3:Value) (w':World):Prop:=
 (s1=false∧s2=false∧s3=false∧Rw w0 w' v0 e size n xs [])∨
 (s1=true∧s2=false∧s3=false∧∃ nb,v1=.slice (some ⟨nb,0,none⟩) m m∧Rw w0 w' v0 e size n xs [(nb,.cells news.toArray e (0,0))])∨
 (s1=true∧s2=true∧∃ B c,v2=.slice B (n+m) c∧(s3=true→v3=.slice B (n+m) c)∧Rw w0 w' (.slice B (n+m) c) e size (n+m) (xs++news) [])
theorem ApI.ext {w0:World} {e:TypeId} {size n m:Nat} {v0:Value} {xs news:List Value} {s1 s2 s3:Bool} {v1 v2 v3:Value} {w':World} (h:ApI w0 e size n m v0 xs news s1 s2 s3 v1 v2 v3 w'):Ext w0 w':=by
 rcases h with ⟨_,_,_,h⟩|⟨_,_,_,_,_,h⟩|⟨_,_,_,_,_,_,h⟩
 all_goals exact h.mem.ext
theorem ApI.build {w0:World} {e:TypeId} {size n m:Nat} {v0:Value} {xs news:List Value} {s2 s3:Bool} {v1 v2 v3:Value} {w w':World} (h:ApI w0 e size n m v0 xs news false s2 s3 v1 v2 v3 w) {b:Nat} (hb:b=w.heap.size) (hw:w'=w.alloc (.cells news.toArray e (0,0))) :
  ApI w0 e size n m v0 xs news true s2 s3 (.slice (some ⟨b,0,none⟩) m m) v2 v3 w':=by
 rcases h with ⟨_,h2,h3,h⟩|⟨h1,_⟩|⟨h1,_⟩
 ·exact .inr (.inl ⟨rfl,h2,h3,b,rfl,h.newBlk hb hw⟩)
 ·cases h1
 ·cases h1
theorem ApI.mid {w0:World} {e:TypeId} {size n m:Nat} {v0:Value} {xs news:List Value} {s3:Bool} {v1 v2 v3:Value} {w:World} (h:ApI w0 e size n m v0 xs news true false s3 v1 v2 v3 w) :
  s3=false∧∃ nb,v1=.slice (some ⟨nb,0,none⟩) m m∧Rw w0 w v0 e size n xs [(nb,.cells news.toArray e (0,0))]:=by
 rcases h with ⟨h1,_⟩|⟨_,_,h3,h⟩|⟨_,h2,_⟩
 ·cases h1
 ·exact ⟨h3,h⟩
 ·cases h2
theorem ApI.end_ {w0:World} {e:TypeId} {size n m:Nat} {v0:Value} {xs news:List Value} {s1 s3:Bool} {v1 v2 v3:Value} {w:World} (h:ApI w0 e size n m v0 xs news s1 true s3 v1 v2 v3 w) :
  s1=true∧∃ B c,v2=.slice B (n+m) c∧(s3=true→v3=.slice B (n+m) c)∧Rw w0 w (.slice B (n+m) c) e size (n+m) (xs++news) []:=by
 rcases h with ⟨_,h2,_⟩|⟨_,h2,_⟩|⟨h1,_,h⟩
 ·cases h2
 ·cases h2
 ·exact ⟨h1,h⟩
def trQ (q:Q4):List TM:=[q.s,q.p,q.o]++if q.g.kind=0 then [] else [q.g]
def trms (qs:List Q4):List TM:=(qs.map trQ).flatten
theorem q0o (q:Q4):(trQ q).length≤4:=by unfold trQ;split<;>simp
theorem quy (qs:List Q4):(trms qs).length≤4*qs.length:=by
 induction qs with
 | nil=>exact Nat.le_refl _
 | cons q qs ih=>
  have:=q0o q;simp only [trms,List.map_cons,List.flatten_cons,List.length_append,List.length_cons] at ih ⊢;omega
theorem qm8 (qs:List Q4) (i:Nat) (q:Q4) (h:qs[i]?=some q):trms (qs.take (i+1))=trms (qs.take i)++trQ q:=by
 rw [List.take_add_one,h];simp [trms]
theorem qsw (q:Q4):∀ v∈encT q.s++encT q.p++encT q.o,v.oneCell'=true:=by
 intro v hv
 rcases List.mem_append.1 hv with hv|hv
 ·rcases List.mem_append.1 hv with hv|hv
  ·exact qy _ v hv
  ·exact qy _ v hv
 ·exact qy _ v hv
set_option maxHeartbeats 4000000 in
theorem qm7 (qs:List Q4) (A:Option Addr) (c:Nat) (w:World) (hS:SlAt qaw 16 w A qs) (hl:qs.length≤4194304) :
  Gv Tryz.prog 65 [.slice A qs.length c] w fun v w'=>TmR (tmsN (trms qs).length (trms qs)) v w'∧Ext w w':=by
 refine zE Tryz.func65 Tryz.ntmps65 ?_;(conv=>whnf);refine qm (fun x:Nat × List TM × Option Addr × Nat=>[(0,.slice A qs.length c),(3,.slice x.2.2.1 x.2.1.length x.2.2.2),(4,.int .i64 x.1)])
  (fun x w'=>x.1≤qs.length∧x.2.1=trms (qs.take x.1)∧Rw w w' (.slice x.2.2.1 x.2.1.length x.2.2.2) 73 4 x.2.1.length (x.2.1.map encT).flatten []) (fun x=>qs.length-x.1) (0,[],none,0)
  ⟨rfl,rfl,rfl,trivial⟩ ⟨by simp,rfl,Rw.nil (Mem.nil w)⟩ ?_
 rintro ⟨i,out,B,cb⟩ w1 ρ' ⟨h1,h2,hR⟩;dsimp only at h1 h2 hR ⊢;(conv=>whnf);refine zC (fun _=>?_) (fun _=>?_)<;>(conv=>whnf)
 ·have hil:i<qs.length:=by omega
  obtain ⟨g,o,eA,hc⟩:=hS.at_ (by intro e;rw [e] at hil;simp at hil);subst eA;obtain ⟨q,hq⟩:∃ q,qs[i]?=some q:=⟨_,List.getElem?_eq_getElem hil⟩
  have hcq:=hc i q hq;have hto:=quy (qs.take i);rw [← h2,List.length_take,Nat.min_eq_left h1] at hto;refine DrawV.genW (fun S vals w'=>ApI w 73 4 out.length 3 (.slice B out.length cb) (out.map encT).flatten (encT q.s++encT q.p++encT q.o) (S 16) (S 17) (S 18) (vals 16) (vals 17) (vals 18) w') rfl (by kernel_rfl) (fun vals=>.inl ⟨rfl,rfl,rfl,hR.drew⟩) ?_;clear hR;(conv=>whnf);refine zG ?_;(conv=>whnf);refine zG ?_;(conv=>whnf);refine zG ?_;(conv=>whnf);refine StepG.of (.pointer (some ⟨g,o+i*16,none⟩)) (fun S vals wd hk hp hI=>?_) ?_
  ·(conv=>whnf);refine ⟨⟨g,o,i,rfl,by omega,by omega,?_⟩⟩;rw [show tsz Tryz.prog 75=16 from by kernel_rfl];(conv=>whnf);exact ⟨rfl,hI⟩
  (conv=>whnf);refine StepG.of (.pointer (some ⟨g,o+i*16+0,none⟩)) (fun S vals wd hk hp hI=>?_) ?_
  ·(conv=>whnf);exact ⟨rfl,hI⟩
  (conv=>whnf);refine StepG.of (qa2 q.s) (fun S vals wd hk hp hI=>?_) ?_
  ·(conv=>whnf);refine LoadA.cells ((qaa hcq 0 (by omega)).ext hI.ext) rfl ?_;(conv=>whnf);exact ⟨rfl,hI⟩
  (conv=>whnf);refine zG ?_;(conv=>whnf);refine zG ?_;(conv=>whnf);refine StepG.of (.pointer (some ⟨g,o+i*16,none⟩)) (fun S vals wd hk hp hI=>?_) ?_
  ·(conv=>whnf);refine ⟨⟨g,o,i,rfl,by omega,by omega,?_⟩⟩;rw [show tsz Tryz.prog 75=16 from by kernel_rfl];(conv=>whnf);exact ⟨rfl,hI⟩
  (conv=>whnf);refine StepG.of (.pointer (some ⟨g,o+i*16+4,none⟩)) (fun S vals wd hk hp hI=>?_) ?_
  ·(conv=>whnf);exact ⟨rfl,hI⟩
  (conv=>whnf);refine StepG.of (qa2 q.p) (fun S vals wd hk hp hI=>?_) ?_
  ·(conv=>whnf);refine LoadA.cells ((qaa hcq 1 (by omega)).ext hI.ext) rfl ?_;(conv=>whnf);exact ⟨rfl,hI⟩
  (conv=>whnf);refine zG ?_;(conv=>whnf);refine zG ?_;(conv=>whnf);refine StepG.of (.pointer (some ⟨g,o+i*16,none⟩)) (fun S vals wd hk hp hI=>?_) ?_
  ·(conv=>whnf);refine ⟨⟨g,o,i,rfl,by omega,by omega,?_⟩⟩;rw [show tsz Tryz.prog 75=16 from by kernel_rfl];(conv=>whnf);exact ⟨rfl,hI⟩
  (conv=>whnf);refine StepG.of (.pointer (some ⟨g,o+i*16+8,none⟩)) (fun S vals wd hk hp hI=>?_) ?_
  ·(conv=>whnf);exact ⟨rfl,hI⟩
  (conv=>whnf);refine StepG.of (qa2 q.o) (fun S vals wd hk hp hI=>?_) ?_
  ·(conv=>whnf);refine LoadA.cells ((qaa hcq 2 (by omega)).ext hI.ext) rfl ?_;(conv=>whnf);exact ⟨rfl,hI⟩
  (conv=>whnf);refine StepG.any (fun S vals wd hk hp hI=>?_) ?_
  ·dsimp only at hI;rw [hk] at hI;(conv=>whnf);refine ⟨fun b w' hb hw=>?_⟩;(conv=>whnf);exact ⟨trivial,hI.build hb hw⟩
  (conv=>whnf);refine StepG.any (fun S vals wd hk hp hI=>?_) ?_
  ·dsimp only at hI;have h16:S 16=true:=hp 16 (by decide);rw [hk,h16] at hI;obtain ⟨h18,nb,hv,hR⟩:=hI.mid;rw [qh hv];(conv=>whnf);refine AppV.rw (m:=3) (news:=encT q.s++encT q.p++encT q.o) qhm trmI trmZ (by kernel_rfl) (by kernel_rfl) (by decide) hR rfl (fun _=>⟨nb,0,rfl,fun k v hv=>?_⟩) (qsw q) (by rw [show ((Tryz.prog.info? 73).get (by kernel_rfl)).bytes=56 from by kernel_rfl];omega) (by omega) ?_
   ·rw [qd (hR.mem.get (List.mem_cons_self ..)),Nat.zero_add];rw [List.getElem?_toArray];exact hv
   intro B2 c2 w18 hR2;exact ⟨trivial,.inr (.inr ⟨h16,rfl,B2,c2,rfl,fun h=>absurd (h18.symm.trans h) (by decide),hR2.tail⟩)⟩
  (conv=>whnf);refine StepG.any (fun S vals wd hk hp hI=>?_) ?_
  ·dsimp only at hI;have h17:S 17=true:=hp 17 (by decide);rw [hk,h17] at hI;obtain ⟨h16,B2,c2,hv,_,hR⟩:=hI.end_;rw [qh hv];(conv=>whnf);exact ⟨trivial,.inr (.inr ⟨h16,h17,B2,c2,rfl,fun _=>rfl,hR⟩)⟩
  (conv=>whnf);intro vals w2 hI;obtain ⟨_,B2,c2,hv,hv2,hR⟩:=hI.end_;replace hv2:=hv2 rfl;rw [qh hv,qh hv2];clear hI hv hv2;obtain ⟨out3,eout⟩:∃ out3,out3=out++[q.s,q.p,q.o]:=⟨_,rfl⟩
  have el3:out3.length=out.length+3:=by rw [eout];simp
  have hR:Rw w w2 (.slice B2 out3.length c2) 73 4 out3.length (out3.map encT).flatten []:=by
   have e:(out3.map encT).flatten=(out.map encT).flatten++(encT q.s++encT q.p++encT q.o):=by rw [eout];simp
   rw [e,el3];exact hR
  rw [← el3];have hck:w2.cell? ⟨g,o+i*16+12,none⟩=some (.int .i64 q.g.kind):=Ext.cell hR.mem.ext (qaa hcq 3 (by omega) 0 _ rfl);(conv=>whnf);refine ⟨⟨g,o,i,rfl,by omega,by omega,?_⟩⟩;rw [show tsz Tryz.prog 75=16 from by kernel_rfl];(conv=>whnf);refine LoadV.of hck ?_;conv=>whnf
  (repeat' (first|(refine zA ?_;(conv=>whnf))|((with_reducible refine zC (fun _=>?_) (fun _=>?_))<;>first|(exfalso;omega)|(conv=>whnf))))
  ·have etr:out3++[q.g]=out++trQ q:=by rw [eout,trQ,if_neg (by omega)];simp
   refine ⟨⟨g,o,i,rfl,by omega,by omega,?_⟩⟩;rw [show tsz Tryz.prog 75=16 from by kernel_rfl];(conv=>whnf);refine LoadA.cells ((qaa hcq 3 (by omega)).ext hR.mem.ext) rfl ?_;(conv=>whnf);refine NewV.rw hR ?_;clear hR hck;intro nb w3 hR;(conv=>whnf);refine AppV.rw (m:=1) (news:=encT q.g) qhm trmI trmZ (by kernel_rfl) (by kernel_rfl) (by decide) hR rfl (fun _=>⟨nb,0,rfl,fun k v hv=>?_⟩) (qy q.g) (by rw [show ((Tryz.prog.info? 73).get (by kernel_rfl)).bytes=56 from by kernel_rfl];omega) (by omega) ?_
   ·rw [qd (hR.mem.get (List.mem_cons_self ..)),Nat.zero_add];rw [List.getElem?_toArray];exact hv
   clear hR;intro B3 c3 w4 hR;have hR:Rw w w4 (.slice B3 (out++trQ q).length c3) 73 4 (out++trQ q).length ((out++trQ q).map encT).flatten []:=by
    have e:((out++trQ q).map encT).flatten=(out3.map encT).flatten++encT q.g:=by rw [← etr];simp
    rw [e,← etr,List.length_append];exact hR.tail
   (conv=>whnf);refine zA ?_;(conv=>whnf);refine ⟨(i+1,out++trQ q,B3,c3),⟨rfl,?_,rfl,trivial⟩,⟨by simp only;omega,?_,hR⟩,by simp only;omega⟩
   ·show Value.slice B3 (out3.length+1) c3=Value.slice B3 (out++trQ q).length c3;rw [← etr,List.length_append];rfl
   ·show out++trQ q=trms (qs.take (i+1));rw [qm8 qs i q hq,← h2]
  ·have etr:out3=out++trQ q:=by rw [eout,trQ,if_pos (by omega)];simp
   refine ⟨(i+1,out3,B2,c2),⟨rfl,rfl,rfl,trivial⟩,⟨by simp only;omega,?_,hR⟩,by simp only;omega⟩;show out3=trms (qs.take (i+1));rw [qm8 qs i q hq,← h2,etr]
 ·obtain rfl:i=qs.length:=by omega
  rw [List.take_length] at h2;subst h2;have hle:=quy qs;obtain ⟨o1,o2⟩:=qb7 qby hR.own rfl;have hcall:=qod (trms qs).length (trms qs) B cb w1 (Nat.le_refl _) o1 o2 (by omega);generalize trms qs=ts at *;refine CallV.of (hcall) ?_;rintro v w5 ⟨h5,h6⟩;obtain ⟨B5,d5,rfl,_,_⟩:=id h5;(conv=>whnf);exact ⟨h5,hR.mem.ext.trans h6⟩
open Go.RowKit V
set_option maxRecDepth 100000
theorem qbm (s:ByteArray) (a b:Nat):(s.extract a b).data.toList=(s.data.toList.drop a).take (b-a):=by
 simp [ByteArray.data_extract]
theorem qvq (s sep:ByteArray) (w:World) (hM:MaxLenAt w) (hs:s.size≤4194304) (h1:1≤sep.size):Gv Tryz.prog 304 [.string s,.string sep] w fun r w'=>r=.int .i64 (Lib.countB s sep)∧w'=w:=by
 obtain ⟨m,hm⟩:=hM;exact qg4 (by kernel_rfl) ((Tryz.strings_Count_any s sep m w (by omega) hm h1).mono fun e w' ⟨he,hw⟩=>⟨_,he,rfl,hw⟩)
theorem qv7 (s sep:ByteArray) (w:World) (hM:MaxLenAt w) (hs:s.size≤4194304):Gv Tryz.prog 305 [.string s,.string sep] w fun r w'=>r=.int .i64 (Lib.indexB s sep)∧w'=w:=by
 obtain ⟨m,hm⟩:=hM;exact qg4 (by kernel_rfl) ((Tryz.strings_Index s sep m w (by omega) hm).mono fun e w' ⟨he,hw⟩=>⟨_,he,rfl,hw⟩)
theorem qxj (s sep:ByteArray) (w:World) (hM:MaxLenAt w) (hs:s.size≤4194304):Gv Tryz.prog 240 [.string s,.string sep] w fun r w'=>
  r=.tuple #[.string ⟨(Lib.cut s.data.toList sep.data.toList).1.toArray⟩,.string ⟨(Lib.cut s.data.toList sep.data.toList).2.1.toArray⟩,.bool (Lib.cut s.data.toList sep.data.toList).2.2]∧Ext w w':=by
 obtain ⟨m,hm⟩:=hM;refine qg4 (by kernel_rfl) ((Tryz.strings_Cut s sep m w (by omega) hm).mono fun e w' ⟨he,n,hw⟩=>⟨_,he,rfl,?_⟩);subst hw;exact ⟨rfl,rfl,rfl,Nat.le_refl _,fun _ _=>rfl⟩
theorem qyi (b n:Nat) (w0 w:World) (h:Mem w0 w [(b,.cells #[.pointer none,.slice none 0 0] 303 (0,0))]) (hn:n≤281474976710656) :
  Gv Tryz.prog 193 [.pointer (some ⟨b,0,none⟩),.int .i64 n] w fun r w'=>r=.tuple #[]∧Bld w0 w' b [] []:=by
 have ho:=h.own _ (List.mem_cons_self ..);refine qg4 (by kernel_rfl) ((Tryz.Builder_Grow_fresh w0.heap.size b n w ho.1 ho.2 h.ext.size hn).mono fun e w' ⟨he,⟨h1,v,h2,h3,h4⟩,h5⟩=>⟨_,he,rfl,⟨_,v,.inr rfl,⟨⟨Below.trans h.ext h5,?_,by simp⟩,h3,?_⟩⟩⟩)
 ·intro x hx;simp only [List.mem_cons,List.not_mem_nil,or_false] at hx;subst hx;exact ⟨h1,h2⟩
 ·intro x hx;simp only [List.mem_cons,List.not_mem_nil,or_false] at hx;subst hx;exact h4
theorem qni (s:ByteArray):s.extract 0 s.size=s:=qcz (by rw [qbm];simp;exact List.take_of_length_le (Nat.le_refl _))
set_option maxHeartbeats 1000000 in
theorem qn5 (s old new:ByteArray) (w:World) (hM:MaxLenAt w) (hne:seq old new=false) (hs:s.size≤4194304) (ho:(old.size=1∧new.size=2)∨(old.size=2∧new.size=1)) :
  Gv Tryz.prog 292 [.string s,.string old,.string new,.int .i64 (-1)] w fun r w'=>r=.string ⟨(Lib.replaceAll s.data.toList old.data.toList new.data.toList).toArray⟩∧Ext w w':=by
 have h1:1≤old.size:=by omega
 have hoe:(old.data.toList==new.data.toList)=false:=by
  rw [beq_eq_false_iff_ne];intro e;have:old=new:=qcz e;rw [q7.2 this] at hne;cases hne
 have hon:old.data.toList≠[]:=by
  intro e;have:old.data.toList.length=0:=by rw [e];rfl
  have h2:old.data.toList.length=old.size:=rfl;omega
 refine zE Tryz.func292 Tryz.ntmps292 ?_;(conv=>whnf);rw [hne];(iterate 3 (refine zU ?_;(conv=>whnf)));refine zN (fun _=>?_);(conv=>whnf);refine CallV.of (qvq s old w hM hs h1) ?_;rintro v w' ⟨rfl,rfl⟩;(conv=>whnf);have hKo:=Lib.countB_mul_le old h1 s.size s (Nat.le_refl _);obtain ⟨K,eK⟩:∃ K,K=Lib.countB s old:=⟨_,rfl⟩
 rw [← eK] at hKo ⊢
 by_cases hK:K=0
 ·have hr:Lib.replaceAll s.data.toList old.data.toList new.data.toList=s.data.toList:=by
   rcases Lib.indexB_cases s old with hix|⟨i,hix,_⟩
   ·exact qei hoe hix
   ·have:=Lib.countB_hit s old i h1 hix;omega
  refine zY (fun _=>?_);(conv=>whnf);exact ⟨by rw [hr],Ext.refl _⟩
 refine zN (fun _=>?_);(conv=>whnf);refine zY (fun _=>?_);(conv=>whnf);(iterate 4 (refine zT ?_;(conv=>whnf)));refine NewV.mem (Mem.nil w') ?_;intro b w1 hm;(conv=>whnf);have hK1:K≤s.size:=Nat.le_trans (Nat.le_mul_of_pos_right K h1) hKo;obtain ⟨d,hd,hd1,hd2⟩:∃ d:Int,(K:Int)*((new.size:Int)-(old.size:Int))=d∧-(K:Int)≤d∧d≤K:=by
  rcases ho with ⟨h1,h2⟩|⟨h1,h2⟩
  ·exact ⟨K,by rw [h1,h2];omega,by omega,by omega⟩
  ·exact ⟨-K,by rw [h1,h2];omega,by omega,by omega⟩
 refine Obl.mk ⟨by omega,by omega⟩ ?_;(conv=>whnf);rw [hd];refine Obl.mk ⟨by omega,by omega⟩ ?_;(conv=>whnf);refine Obl.mk ⟨by omega,by omega⟩ ?_;(conv=>whnf);obtain ⟨M,eM⟩:∃ M:Nat,(s.size:Int)+d=M:=⟨((s.size:Int)+d).toNat,by omega⟩
 rw [eM];refine CallV.of (qyi b M w' w1 hm (by omega)) ?_;rintro r w2 ⟨rfl,hB⟩;(conv=>whnf);refine zY (fun _=>?_);(conv=>whnf);refine qm (fun x:Nat × Nat × List UInt8=>[(0,.string s),(1,.string old),(2,.string new),(10,.pointer (some ⟨b,0,none⟩)),(11,.int .i64 x.2.1),(52,.int .i64 K),(53,.int .i64 x.1)])
  (fun x w''=>x.1≤K∧x.2.1≤s.size∧x.1+Lib.countB (s.extract x.2.1 s.size) old=K∧x.2.2++Lib.replaceAll (s.data.toList.drop x.2.1) old.data.toList new.data.toList=Lib.replaceAll s.data.toList old.data.toList new.data.toList∧x.2.2.length≤2*x.2.1∧Bld w' w'' b x.2.2 []) (fun x=>K-x.1) (0,0,[])
  ⟨rfl,rfl,rfl,rfl,rfl,rfl,rfl,trivial⟩ ⟨by simp,by simp,by rw [qni,← eK];omega,by simp,by simp,hB⟩ ?_
 clear hB;rintro ⟨j,p,l⟩ w3 ρ' ⟨hj,hp,hc,hr,hl,hB⟩;dsimp only at hj hp hc hr hl hB ⊢;have hrl:(s.extract p s.size).data.toList=s.data.toList.drop p:=by
  rw [qbm,List.take_of_length_le];have:s.data.toList.length=s.size:=rfl;simp only [List.length_drop];omega
 obtain ⟨r,er⟩:∃ r,r=s.extract p s.size:=⟨_,rfl⟩
 have hrs:r.size=s.size-p:=by
  have e1:r.size=r.data.toList.length:=rfl;have e2:s.data.toList.length=s.size:=rfl;rw [e1,er,hrl,List.length_drop,e2]
 rw [← er] at hc hrl;(conv=>whnf);refine zC (fun _=>?_) (fun _=>?_)<;>(conv=>whnf)
 ·refine SliceS.at_ p s.size rfl rfl hp (Nat.le_refl _) ?_;rw [← er];(conv=>whnf);refine CallV.of (qv7 r old w3 (hM.ext hB.ext) (by omega)) ?_;rintro v w4 ⟨rfl,rfl⟩
  rcases Lib.indexB_cases r old with hix|⟨i,hix,hio⟩
  ·have:=Lib.countB_miss r old hix;omega
  rw [hix];have hhit:=Lib.countB_hit r old i h1 hix;have hrx:r.extract (i+old.size) r.size=s.extract (p+i+old.size) s.size:=by
   refine qcz ?_;rw [qbm,qbm,hrl,List.drop_drop,show p+(i+old.size)=p+i+old.size by omega,show r.size-(i+old.size)=s.size-(p+i+old.size) by omega]
  rw [hrx] at hhit;have hrep:=qfu hoe hon (s:=s.data.toList.drop p) (i:=i) (by rw [← hrl];exact hix);(conv=>whnf);refine zA ?_;(conv=>whnf);refine SliceS.at_ p (p+i) rfl (by show _=_;omega) (by omega) (by omega) ?_;(conv=>whnf);refine CallV.of (qco b l (s.extract p (p+i)) w' w4 [] hB (fun x hx=>by cases hx) (by simp [ByteArray.size_extract];omega)) ?_;rintro v w5 ⟨rfl,hB⟩;have hwl:(s.extract p (p+i)).data.toList.length=i:=by
   have:s.data.toList.length=s.size:=rfl;rw [qbm,List.length_take,List.length_drop];omega
  (conv=>whnf);refine CallV.of (qco b (l++(s.extract p (p+i)).data.toList) new w' w5 [] hB (fun x hx=>by cases hx) (by rw [List.length_append];omega)) ?_;rintro v w6 ⟨rfl,hB⟩;(conv=>whnf);(iterate 2 (refine zA ?_;(conv=>whnf)));have hnl:new.data.toList.length=new.size:=rfl;refine ⟨(j+1,p+i+old.size,l++(s.extract p (p+i)).data.toList++new.data.toList),⟨rfl,rfl,rfl,rfl,by show Value.int .i64 _=Value.int .i64 _;congr 1,rfl,rfl,trivial⟩,⟨by simp only;omega,by simp only;omega,by simp only;omega,?_,by simp only [List.length_append];omega,hB⟩,by simp only;omega⟩;rw [← hr,hrep,qbm,show p+i-p=i by omega,List.drop_drop,show p+(i+old.data.toList.length)=p+i+old.size from by show p+(i+old.size)=_;omega];simp [List.append_assoc]
 ·obtain rfl:j=K:=by omega
  have hix:Lib.indexB r old=-1:=by
   rcases Lib.indexB_cases r old with hix|⟨i,hix,hio⟩
   ·exact hix
   ·have:=Lib.countB_hit r old i h1 hix;omega
  have hrep:=qei hoe (s:=s.data.toList.drop p) (by rw [← hrl];exact hix);refine SliceS.at_ p s.size rfl rfl hp (Nat.le_refl _) ?_;rw [← er];(conv=>whnf);refine CallV.of (qco b l r w' w3 [] hB (fun x hx=>by cases hx) (by omega)) ?_;rintro v w4 ⟨rfl,hB⟩;(conv=>whnf);refine CallV.of (qf9 b (l++r.data.toList) w' w4 [] hB) ?_;rintro v w5 ⟨rfl,he⟩;(conv=>whnf);exact ⟨by rw [← hr,hrep,hrl],he⟩
theorem qet (s old new:ByteArray) (w:World) (hM:MaxLenAt w) (hne:seq old new=false) (hs:s.size≤4194304) (ho:(old.size=1∧new.size=2)∨(old.size=2∧new.size=1)) :
  Gv Tryz.prog 241 [.string s,.string old,.string new] w fun r w'=>r=.string ⟨(Lib.replaceAll s.data.toList old.data.toList new.data.toList).toArray⟩∧Ext w w':=by
 refine zE Tryz.func241 Tryz.ntmps241 ?_;(conv=>whnf);refine CallV.of (qn5 s old new w hM hne hs ho) ?_;rintro v w' ⟨rfl,he⟩;(conv=>whnf);exact ⟨rfl,he⟩
open Go.RowKit V
set_option maxRecDepth 100000
set_option maxHeartbeats 1000000 in
theorem qg0 (t:TM) (ht:TermOk t) (w:World) (hM:MaxLenAt w) (hT:CellsAt w 3 0 qbo) :
  Gv Tryz.prog 242 [qa2 t] w fun r w'=>r=(if qa7 t=0 then .tuple #[.string ⟨(qbh t).toArray⟩,.int .i64 0] else .tuple #[.string ⟨#[]⟩,.int .i64 (qa7 t)])∧Ext w w':=by
 refine zE Tryz.func242 Tryz.ntmps242 ?_;(conv=>whnf);refine NewV.mem (Mem.nil w) ?_;intro tb w1 hm;have hm:Mem w w1 [(tb,.cells #[.int .i64 t.kind,.string t.text,.string t.type,.string t.lang] 73 (0,0))]:=hm;(conv=>whnf);refine zL hm 0 ?_;(conv=>whnf);refine CallV.of (qf2 t ht w1 (hM.ext hm.ext) (hT.ext hm.ext)) ?_;rintro r w2 ⟨rfl,he2⟩;have hm:=hm.call he2;obtain ⟨e,ee⟩:∃ e,e=qa7 t:=⟨_,rfl⟩
 rw [← ee];conv=>whnf
 (repeat' (first|((with_reducible refine zC (fun _=>?_) (fun _=>?_))<;>first|(exfalso;omega)|(conv=>whnf))|(refine LoadV.mem (i:=0) (by assumption) rfl rfl ?_;(conv=>whnf))))
 ·rw [if_neg (by omega)];exact ⟨rfl,hm.ext⟩
 ·have h1:qbh t=t.text.data.toList:=by rw [qbh,if_neg (by assumption)]
  rw [if_pos (by omega),h1];exact ⟨rfl,hm.ext⟩
 rw [if_pos (by omega)];have hk3:t.kind=3:=by omega
 have htx:=ht.text;have hty:=ht.type;have htl:=ht.lang;obtain ⟨R,eR,hRl⟩:∃ R:ByteArray,R=⟨(Lib.replaceAll t.text.data.toList [0] [0,1]).toArray⟩∧R.data.toList=escL t.text.data.toList:=⟨_,rfl,qy6 _⟩
 have hRs:R.size≤2*t.text.size:=by
  have h1:R.size=R.data.toList.length:=rfl;have h2:=qpa t.text.data.toList;rw [h1,hRl];exact h2
 have hz2:(⟨#[0,0]⟩:ByteArray).size=2:=rfl;have hz1:(⟨#[0]⟩:ByteArray).size=1:=rfl;refine DrawV.free (by kernel_rfl) (by kernel_rfl) ?_;(conv=>whnf);refine zD ?_;(conv=>whnf);refine zD ?_ (by intro wd hd;(conv=>whnf);refine LoadV.mem (Mem.call (Mem.drew hm) hd) (i:=0) rfl rfl ?_;(conv=>whnf);exact ⟨Ext.refl _,rfl⟩);(conv=>whnf);apply StepD.still (.string R)
 ·intro wd hd;(conv=>whnf);refine CallV.of (qet t.text ⟨#[0]⟩ ⟨#[0,1]⟩ wd (hM.ext (hm.drew.call hd).ext) rfl (by omega) (.inl ⟨rfl,rfl⟩)) ?_;rintro r w5 ⟨rfl,he⟩;exact ⟨he,by rw [eR]⟩
 (conv=>whnf);apply StepD.still
 ·intro wd hd;(conv=>whnf);refine Obl.mk (by rw [hz2];omega) ?_;(conv=>whnf);exact ⟨Ext.refl _,rfl⟩
 (conv=>whnf);refine zD ?_;(conv=>whnf);refine zD ?_ (by intro wd hd;(conv=>whnf);refine LoadV.mem (Mem.call (Mem.drew hm) hd) (i:=0) rfl rfl ?_;(conv=>whnf);exact ⟨Ext.refl _,rfl⟩);(conv=>whnf);apply StepD.still
 ·intro wd hd;(conv=>whnf);refine Obl.mk (by simp only [ByteArray.size_append];rw [hz2];omega) ?_;(conv=>whnf);exact ⟨Ext.refl _,rfl⟩
 (conv=>whnf);apply StepD.still
 ·intro wd hd;(conv=>whnf);refine Obl.mk (by simp only [ByteArray.size_append];rw [hz2,hz1];omega) ?_;(conv=>whnf);exact ⟨Ext.refl _,rfl⟩
 (conv=>whnf);refine zD ?_;(conv=>whnf);refine zD ?_ (by intro wd hd;(conv=>whnf);refine LoadV.mem (Mem.call (Mem.drew hm) hd) (i:=0) rfl rfl ?_;(conv=>whnf);exact ⟨Ext.refl _,rfl⟩);(conv=>whnf);apply StepD.still
 ·intro wd hd;(conv=>whnf);refine Obl.mk (by simp only [ByteArray.size_append];rw [hz2,hz1];omega) ?_;(conv=>whnf);exact ⟨Ext.refl _,rfl⟩
 (conv=>whnf);refine zD ?_;(conv=>whnf);refine zD ?_;(conv=>whnf);intro w3 he3;(conv=>whnf);refine ⟨?_,(hm.drew.call he3).ext⟩;have:R++⟨#[0,0]⟩++t.type++⟨#[0]⟩++t.lang=⟨(qbh t).toArray⟩:=qcz (by simp [qbh,hk3,hRl,ByteArray.data_append]);rw [this]
noncomputable def qcu (kind:Int) (s:List UInt8):Value:=
 match qgr kind s with
 | some t=>.tuple #[qa2 t,.int .i64 0]
 | none=>.tuple #[.agg #[.int .i64 0,.string ⟨#[]⟩,.string ⟨#[]⟩,.string ⟨#[]⟩],.int .i64 170]
theorem qe8 {kind:Int} {s:List UInt8} {t:TM} (h:ReadsAs kind s t):qcu kind s=.tuple #[qa2 t,.int .i64 0]:=by rw [qcu,qjy h]
theorem qbl {kind:Int} {s:List UInt8} (h:∀ t,¬ ReadsAs kind s t):qcu kind s=.tuple #[.agg #[.int .i64 0,.string ⟨#[]⟩,.string ⟨#[]⟩,.string ⟨#[]⟩],.int .i64 170]:=by rw [qcu,qri h]
theorem qsp (s sep:List UInt8):(Lib.cut s sep).1.length≤s.length∧(Lib.cut s sep).2.1.length≤s.length:=by
 unfold Lib.cut
 split<;>simp<;>exact Nat.min_le_right _ _
theorem qy7:∀ (l:List UInt8),(Lib.replaceAll l [0,1] [0]).length≤l.length:=by
 intro l
 induction h:l.length using Nat.strongRecOn generalizing l with
 | _ n ih=>
  by_cases hm:Lib.index l [0,1]=-1
  ·rw [qei (by decide) hm];omega
  ·obtain ⟨i,hi⟩:∃ i:Nat,Lib.index l [0,1]=i:=⟨(Lib.index l [0,1]).toNat,by have:=Lib.index_ge l [0,1];omega⟩
   have hroom:i+2≤l.length:=by
    rcases Lib.indexB_cases ⟨l.toArray⟩ ⟨#[0,1]⟩ with h1|⟨j,h1,h2⟩
    ·exact absurd h1 hm
    ·have h3:(Lib.index l [0,1])=j:=h1;have h4:j+2≤l.length:=h2;omega
   rw [qfu (by decide) (by simp) hi,show i+([0,1]:List UInt8).length=i+2 from rfl];have:=ih (l.drop (i+2)).length (by rw [List.length_drop];omega) (l.drop (i+2)) rfl;simp only [List.length_append,List.length_take,List.length_cons,List.length_nil,List.length_drop] at this ⊢;omega
set_option maxHeartbeats 2000000 in
theorem qu7 (kind:Int) (hk:kind=1∨kind=2∨kind=3) (s:ByteArray) (hs:s.size≤262144) (w:World) (hM:MaxLenAt w) (hT:CellsAt w 3 0 qbo) :
  Gv Tryz.prog 190 [.int .i64 kind,.string s] w fun r w'=>r=qcu kind s.data.toList∧Ext w w':=by
 rcases hk with rfl|rfl|rfl
 all_goals
  refine zE Tryz.func190 Tryz.ntmps190 ?_;(conv=>whnf);refine NewV.mem (Mem.nil w) ?_;intro r4 w1 hm;(conv=>whnf);refine NewV.mem hm ?_;intro tb w2 hm;(conv=>whnf);refine zS hm 0 ?_;intro w3 hm;conv=>whnf
  (repeat' ((with_reducible refine zC (fun _=>?_) (fun _=>?_))<;>first|(exfalso;omega)|(conv=>whnf)))
 ·obtain ⟨t,et⟩:∃ t:TM,t=⟨1,s,⟨#[]⟩,⟨#[]⟩⟩:=⟨_,rfl⟩
  have hkind:t.kind=1:=by rw [et]
  have ht:TermOk t:=by rw [et];exact ⟨(show InR .i64 1 from ⟨by decide,by decide⟩),by show s.size≤_;omega,(show (0:Nat)≤1048576 by decide),(show (0:Nat)≤1048576 by decide)⟩
  have hm:Mem w w3 [(tb,.cells #[.int .i64 t.kind,.string t.text,.string t.type,.string t.lang] 73 (0,0)),(r4,.cells #[.int .i64 0,.string ⟨#[]⟩,.string ⟨#[]⟩,.string ⟨#[]⟩] 73 (0,0))]:=by rw [et];exact hm
  have huniq:∀ u,ReadsAs 1 s.data.toList u→u=t:=fun u hu=>by
   obtain ⟨h1,h2,h3⟩:=hu.plain (by decide);have h4:=hu.kind;rw [et];obtain ⟨uk,ux,uy,ul⟩:=u;dsimp only at h1 h2 h3 h4;rw [h2,h3,h4,qcz h1]
  clear et;refine zL hm 0 ?_;(conv=>whnf);refine CallV.of (qg0 t ht _ (hM.ext hm.ext) (hT.ext hm.ext)) ?_;rintro r w5 ⟨rfl,he⟩;have hm:=hm.call he
  by_cases hE:qa7 t=0
  ·rw [if_pos hE];cases hq:seq ⟨(qbh t).toArray⟩ s
   ·have hv:qcu 1 s.data.toList=.tuple #[.agg #[.int .i64 0,.string ⟨#[]⟩,.string ⟨#[]⟩,.string ⟨#[]⟩],.int .i64 170]:=qbl fun u hu=>by
     have e:=huniq u hu;subst e;have:(⟨(qbh u).toArray⟩:ByteArray)=s:=qcz hu.entry;rw [q7.2 this] at hq;cases hq
    rw [hv];(conv=>whnf);refine zN (fun _=>?_);(conv=>whnf);(iterate 3 (refine zU ?_;(conv=>whnf)));refine zP ?_;rw [hq];(conv=>whnf);refine zU ?_;(conv=>whnf);refine zS hm 1 ?_;intro w6 hm;(conv=>whnf);refine qa (R:=fun v w'=>v=.tuple #[.agg #[.int .i64 0,.string ⟨#[]⟩,.string ⟨#[]⟩,.string ⟨#[]⟩],.int .i64 170]∧Ext w w') ?_;(conv=>whnf);refine zL hm 1 ?_;(conv=>whnf);exact ⟨rfl,hm.ext⟩
   ·have hr:ReadsAs 1 s.data.toList t:=⟨hkind,hE,congrArg (fun b:ByteArray=>b.data.toList) (q7.1 hq)⟩
    rw [qe8 hr];(conv=>whnf);refine zN (fun _=>?_);(conv=>whnf);(iterate 3 (refine zU ?_;(conv=>whnf)));refine zP ?_;rw [hq];(conv=>whnf);refine zT ?_;(conv=>whnf);refine zL hm 0 ?_;(conv=>whnf);refine zS hm 1 ?_;intro w6 hm;(conv=>whnf);refine qa (R:=fun v w'=>v=.tuple #[qa2 t,.int .i64 0]∧Ext w w') ?_;(conv=>whnf);refine zL hm 1 ?_;(conv=>whnf);exact ⟨rfl,hm.ext⟩
  ·rw [if_neg hE];have hv:qcu 1 s.data.toList=.tuple #[.agg #[.int .i64 0,.string ⟨#[]⟩,.string ⟨#[]⟩,.string ⟨#[]⟩],.int .i64 170]:=qbl fun u hu=>hE (huniq u hu ▸ hu.ok)
   rw [hv];(conv=>whnf);refine zY (fun _=>?_);(conv=>whnf);(iterate 4 (refine zT ?_;(conv=>whnf)));refine zS hm 1 ?_;intro w6 hm;(conv=>whnf);refine qa (R:=fun v w'=>v=.tuple #[.agg #[.int .i64 0,.string ⟨#[]⟩,.string ⟨#[]⟩,.string ⟨#[]⟩],.int .i64 170]∧Ext w w') ?_;(conv=>whnf);refine zL hm 1 ?_;(conv=>whnf);exact ⟨rfl,hm.ext⟩
 ·obtain ⟨t,et⟩:∃ t:TM,t=⟨2,s,⟨#[]⟩,⟨#[]⟩⟩:=⟨_,rfl⟩
  have hkind:t.kind=2:=by rw [et]
  have ht:TermOk t:=by rw [et];exact ⟨(show InR .i64 2 from ⟨by decide,by decide⟩),by show s.size≤_;omega,(show (0:Nat)≤1048576 by decide),(show (0:Nat)≤1048576 by decide)⟩
  have hm:Mem w w3 [(tb,.cells #[.int .i64 t.kind,.string t.text,.string t.type,.string t.lang] 73 (0,0)),(r4,.cells #[.int .i64 0,.string ⟨#[]⟩,.string ⟨#[]⟩,.string ⟨#[]⟩] 73 (0,0))]:=by rw [et];exact hm
  have huniq:∀ u,ReadsAs 2 s.data.toList u→u=t:=fun u hu=>by
   obtain ⟨h1,h2,h3⟩:=hu.plain (by decide);have h4:=hu.kind;rw [et];obtain ⟨uk,ux,uy,ul⟩:=u;dsimp only at h1 h2 h3 h4;rw [h2,h3,h4,qcz h1]
  clear et;refine zL hm 0 ?_;(conv=>whnf);refine CallV.of (qg0 t ht _ (hM.ext hm.ext) (hT.ext hm.ext)) ?_;rintro r w5 ⟨rfl,he⟩;have hm:=hm.call he
  by_cases hE:qa7 t=0
  ·rw [if_pos hE];cases hq:seq ⟨(qbh t).toArray⟩ s
   ·have hv:qcu 2 s.data.toList=.tuple #[.agg #[.int .i64 0,.string ⟨#[]⟩,.string ⟨#[]⟩,.string ⟨#[]⟩],.int .i64 170]:=qbl fun u hu=>by
     have e:=huniq u hu;subst e;have:(⟨(qbh u).toArray⟩:ByteArray)=s:=qcz hu.entry;rw [q7.2 this] at hq;cases hq
    rw [hv];(conv=>whnf);refine zN (fun _=>?_);(conv=>whnf);(iterate 3 (refine zU ?_;(conv=>whnf)));refine zP ?_;rw [hq];(conv=>whnf);refine zU ?_;(conv=>whnf);refine zS hm 1 ?_;intro w6 hm;(conv=>whnf);refine qa (R:=fun v w'=>v=.tuple #[.agg #[.int .i64 0,.string ⟨#[]⟩,.string ⟨#[]⟩,.string ⟨#[]⟩],.int .i64 170]∧Ext w w') ?_;(conv=>whnf);refine zL hm 1 ?_;(conv=>whnf);exact ⟨rfl,hm.ext⟩
   ·have hr:ReadsAs 2 s.data.toList t:=⟨hkind,hE,congrArg (fun b:ByteArray=>b.data.toList) (q7.1 hq)⟩
    rw [qe8 hr];(conv=>whnf);refine zN (fun _=>?_);(conv=>whnf);(iterate 3 (refine zU ?_;(conv=>whnf)));refine zP ?_;rw [hq];(conv=>whnf);refine zT ?_;(conv=>whnf);refine zL hm 0 ?_;(conv=>whnf);refine zS hm 1 ?_;intro w6 hm;(conv=>whnf);refine qa (R:=fun v w'=>v=.tuple #[qa2 t,.int .i64 0]∧Ext w w') ?_;(conv=>whnf);refine zL hm 1 ?_;(conv=>whnf);exact ⟨rfl,hm.ext⟩
  ·rw [if_neg hE];have hv:qcu 2 s.data.toList=.tuple #[.agg #[.int .i64 0,.string ⟨#[]⟩,.string ⟨#[]⟩,.string ⟨#[]⟩],.int .i64 170]:=qbl fun u hu=>hE (huniq u hu ▸ hu.ok)
   rw [hv];(conv=>whnf);refine zY (fun _=>?_);(conv=>whnf);(iterate 4 (refine zT ?_;(conv=>whnf)));refine zS hm 1 ?_;intro w6 hm;(conv=>whnf);refine qa (R:=fun v w'=>v=.tuple #[.agg #[.int .i64 0,.string ⟨#[]⟩,.string ⟨#[]⟩,.string ⟨#[]⟩],.int .i64 170]∧Ext w w') ?_;(conv=>whnf);refine zL hm 1 ?_;(conv=>whnf);exact ⟨rfl,hm.ext⟩
 ·have hcs:=fun w' hM'=>qxj s ⟨#[0,0]⟩ w' hM' (by omega)
  obtain ⟨tx,rs,ok,ec⟩:∃ tx rs ok,Lib.cut s.data.toList [0,0]=(tx,rs,ok):=⟨_,_,_,rfl⟩
  obtain ⟨ty,la,fi,ed⟩:∃ ty la fi,Lib.cut rs [0]=(ty,la,fi):=⟨_,_,_,rfl⟩
  have hls:s.data.toList.length=s.size:=rfl;have hl1:=qsp s.data.toList [0,0];rw [ec] at hl1;dsimp only at hl1;have hl2:=qsp rs [0];rw [ed] at hl2;dsimp only at hl2;refine CallV.of (hcs w3 (hM.ext hm.ext)) ?_;rintro r w4 ⟨rfl,he4⟩;have hm:=hm.call he4;have ec':Lib.cut s.data.toList (⟨#[0,0]⟩:ByteArray).data.toList=(tx,rs,ok):=ec;rw [ec'];(conv=>whnf);refine CallV.of (qxj ⟨rs.toArray⟩ ⟨#[0]⟩ w4 (hM.ext hm.ext) (by show rs.length≤_;omega)) ?_;rintro r w5 ⟨rfl,he5⟩;have hm:=hm.call he5;have ed':Lib.cut (⟨rs.toArray⟩:ByteArray).data.toList (⟨#[0]⟩:ByteArray).data.toList=(ty,la,fi):=ed;rw [ed'];have hgood:∀ u,ReadsAs 3 s.data.toList u→tx=escL u.text.data.toList∧ty=u.type.data.toList∧la=u.lang.data.toList∧ok=true∧fi=true:=fun u hu=>by
   obtain ⟨h1,h2⟩:=hu.lit;have h3:=qne u.text.data.toList (u.type.data.toList++([0]++u.lang.data.toList));rw [← h1,ec] at h3;cases h3;have h4:=qkg u.type.data.toList u.lang.data.toList h2;rw [ed] at h4;cases h4;exact ⟨rfl,rfl,rfl,rfl,rfl⟩
  by_cases hok:ok=true∧fi=true
  ·obtain ⟨rfl,rfl⟩:=hok;obtain ⟨t,et⟩:∃ t:TM,t=⟨3,⟨(Lib.replaceAll tx [0,1] [0]).toArray⟩,⟨ty.toArray⟩,⟨la.toArray⟩⟩:=⟨_,rfl⟩
   have hkind:t.kind=3:=by rw [et]
   have hrl:=qy7 tx;have ht:TermOk t:=by
    rw [et];refine ⟨(show InR .i64 3 from ⟨by decide,by decide⟩),?_,?_,?_⟩
    ·show (Lib.replaceAll tx [0,1] [0]).length≤_;omega
    ·show ty.length≤_;omega
    ·show la.length≤_;omega
   have huniq:∀ u,ReadsAs 3 s.data.toList u→u=t:=fun u hu=>by
    obtain ⟨h1,h2,h3,_,_⟩:=hgood u hu;have h4:=hu.kind;rw [et];obtain ⟨uk,ux,uy,ul⟩:=u;dsimp only at h1 h2 h3 h4;rw [h4,h1,qio,h2,h3]
   (conv=>whnf);refine zP ?_;refine zT ?_;(conv=>whnf);(iterate 2 (refine zU ?_;(conv=>whnf)));refine zP ?_;refine zT ?_;(conv=>whnf);refine CallV.of (qet ⟨tx.toArray⟩ ⟨#[0,1]⟩ ⟨#[0]⟩ w5 (hM.ext hm.ext) rfl (by show tx.length≤_;omega) (.inr ⟨rfl,rfl⟩)) ?_;rintro r w6 ⟨rfl,he6⟩;have hm:=hm.call he6;(conv=>whnf);refine StoreV.mem hm (i:=0) rfl (by first|(show 1<4;decide)|simp) rfl ?_;intro w7 hm;(conv=>whnf);refine StoreV.mem hm (i:=0) rfl (by first|(show 2<4;decide)|simp) rfl ?_;intro w8 hm;(conv=>whnf);refine StoreV.mem hm (i:=0) rfl (by first|(show 3<4;decide)|simp) rfl ?_;intro w9 hm;have hm:Mem w w9 [(tb,.cells #[.int .i64 t.kind,.string t.text,.string t.type,.string t.lang] 73 (0,0)),(r4,.cells #[.int .i64 0,.string ⟨#[]⟩,.string ⟨#[]⟩,.string ⟨#[]⟩] 73 (0,0))]:=by rw [et];exact hm
   clear et;(conv=>whnf);refine zL hm 0 ?_;(conv=>whnf);refine CallV.of (qg0 t ht _ (hM.ext hm.ext) (hT.ext hm.ext)) ?_;rintro r w5 ⟨rfl,he⟩;have hm:=hm.call he
   by_cases hE:qa7 t=0
   ·rw [if_pos hE];cases hq:seq ⟨(qbh t).toArray⟩ s
    ·have hv:qcu 3 s.data.toList=.tuple #[.agg #[.int .i64 0,.string ⟨#[]⟩,.string ⟨#[]⟩,.string ⟨#[]⟩],.int .i64 170]:=qbl fun u hu=>by
      have e:=huniq u hu;subst e;have:(⟨(qbh u).toArray⟩:ByteArray)=s:=qcz hu.entry;rw [q7.2 this] at hq;cases hq
     rw [hv];(conv=>whnf);refine zN (fun _=>?_);(conv=>whnf);(iterate 3 (refine zU ?_;(conv=>whnf)));refine zP ?_;rw [hq];(conv=>whnf);refine zU ?_;(conv=>whnf);refine zS hm 1 ?_;intro w6 hm;(conv=>whnf);refine qa (R:=fun v w'=>v=.tuple #[.agg #[.int .i64 0,.string ⟨#[]⟩,.string ⟨#[]⟩,.string ⟨#[]⟩],.int .i64 170]∧Ext w w') ?_;(conv=>whnf);refine zL hm 1 ?_;(conv=>whnf);exact ⟨rfl,hm.ext⟩
    ·have hr:ReadsAs 3 s.data.toList t:=⟨hkind,hE,congrArg (fun b:ByteArray=>b.data.toList) (q7.1 hq)⟩
     rw [qe8 hr];(conv=>whnf);refine zN (fun _=>?_);(conv=>whnf);(iterate 3 (refine zU ?_;(conv=>whnf)));refine zP ?_;rw [hq];(conv=>whnf);refine zT ?_;(conv=>whnf);refine zL hm 0 ?_;(conv=>whnf);refine zS hm 1 ?_;intro w6 hm;(conv=>whnf);refine qa (R:=fun v w'=>v=.tuple #[qa2 t,.int .i64 0]∧Ext w w') ?_;(conv=>whnf);refine zL hm 1 ?_;(conv=>whnf);exact ⟨rfl,hm.ext⟩
   ·rw [if_neg hE];have hv:qcu 3 s.data.toList=.tuple #[.agg #[.int .i64 0,.string ⟨#[]⟩,.string ⟨#[]⟩,.string ⟨#[]⟩],.int .i64 170]:=qbl fun u hu=>hE (huniq u hu ▸ hu.ok)
    rw [hv];(conv=>whnf);refine zY (fun _=>?_);(conv=>whnf);(iterate 4 (refine zT ?_;(conv=>whnf)));refine zS hm 1 ?_;intro w6 hm;(conv=>whnf);refine qa (R:=fun v w'=>v=.tuple #[.agg #[.int .i64 0,.string ⟨#[]⟩,.string ⟨#[]⟩,.string ⟨#[]⟩],.int .i64 170]∧Ext w w') ?_;(conv=>whnf);refine zL hm 1 ?_;(conv=>whnf);exact ⟨rfl,hm.ext⟩
  ·have hv:qcu 3 s.data.toList=.tuple #[.agg #[.int .i64 0,.string ⟨#[]⟩,.string ⟨#[]⟩,.string ⟨#[]⟩],.int .i64 170]:=qbl fun u hu=>hok ⟨(hgood u hu).2.2.2.1,(hgood u hu).2.2.2.2⟩
   rw [hv];have hcase:ok=false∨(ok=true∧fi=false):=by
    cases ok
    ·exact .inl rfl
    ·cases fi
     ·exact .inr ⟨rfl,rfl⟩
     ·exact absurd ⟨rfl,rfl⟩ hok
   rcases hcase with rfl|⟨rfl,rfl⟩
   all_goals
    (conv=>whnf)
    (repeat' (first|((with_reducible refine zT ?_);(conv=>whnf))|((with_reducible refine zU ?_);(conv=>whnf))|((with_reducible refine zP ?_))))
    refine zS hm 1 ?_;intro w6 hm;(conv=>whnf);refine qa (R:=fun v w'=>v=.tuple #[.agg #[.int .i64 0,.string ⟨#[]⟩,.string ⟨#[]⟩,.string ⟨#[]⟩],.int .i64 170]∧Ext w w') ?_;(conv=>whnf);refine zL hm 1 ?_;(conv=>whnf);exact ⟨rfl,hm.ext⟩
end Go.Proofs.YtajgbepghniciaaGreatDoor
namespace Go.Proofs.YtajgbepghniciaaGreatDoor
open Go.RowKit Go.Extern.Stop Go.Stop Go.Extern
set_option maxRecDepth 100000
theorem qzv (t:Value) (w:World) :
  Calls Tryz.prog 163 #[.nilIface,t] w fun e w'=>e=.returned (.bool false)∧w'=w:=by
 go_enter Tryz.func163,Tryz.ntmps163
 go_wp2
 go_ret
 exact ⟨rfl,rfl⟩
theorem qla (t:Addr) (w:World):(ReflectliteValue.unpack (.iface 267 (.pointer (some t)))).run Tryz.prog w
  = .ok (.agg #[.pointer (some ⟨7,267,none⟩),.pointer (some ⟨w.heap.size,0,none⟩),.int .u64 150]) (w.alloc (.cells #[.pointer (some t)] 267)):=by kernel_rfl
theorem qre (a:Addr) (w:World):(ReflectliteValue.methodAny (ReflectliteValue.valueError "reflectlite.Value.Type" 0) (fun t _ _ _=>ReflectliteType.toType t) #[.agg #[.pointer (some ⟨7,267,none⟩),.pointer (some a),.int .u64 150]]).run Tryz.prog w
  = .ok (.iface 385 (.agg #[.pointer (some ⟨7,267,none⟩)])) w:=by kernel_rfl
theorem qjb (h:Value) (w:World):(Go.method 549 385 (.agg #[h]) "Kind").run Tryz.prog w=.ok (337,h) w:=by kernel_rfl
theorem qrd (w:World):((ReflectliteType.abiMethod fun t=>(fun a:Nat=>Value.int IntKind.u8 (a:Int)) <$> Rtype.kind t) #[.pointer (some ⟨7,267,none⟩)]).run Tryz.prog w=.ok (.int .u8 22) w:=by kernel_rfl
theorem qrc (w:World):((ReflectliteType.abiMethod fun t=>(fun a:Nat=>Value.int IntKind.u8 (a:Int)) <$> Rtype.kind t) #[.pointer (some ⟨7,135,none⟩)]).run Tryz.prog w=.ok (.int .u8 22) w:=by kernel_rfl
theorem rlm (z:Sem Value) (f:TypeId→Addr→Nat→Nat→Sem Value) (v:Value) :
  ReflectliteValue.method z f #[v]=(do match ← ReflectliteValue.parts v with|none=>z|some (t,a,fl)=>f t a fl (fl%32)):=rfl
theorem qik (a:Addr) (w:World):(ReflectliteValue.parts (.agg #[.pointer (some ⟨7,267,none⟩),.pointer (some a),.int .u64 150])).run Tryz.prog w=.ok (some (267,a,150)) w:=by kernel_rfl
theorem qnx (a p:Addr) (W:World) (ha:W.cell? a=some (.pointer (some p))) :
  (ReflectliteValue.method (ReflectliteValue.valueError "reflectlite.Value.IsNil" 0) ReflectliteValue.isNil #[.agg #[.pointer (some ⟨7,267,none⟩),.pointer (some a),.int .u64 150]]).run Tryz.prog W=.ok (.bool false) W:=by
 rw [rlm];simp only [Sem.run_bind,qik,Result.andThen];simp [ReflectliteValue.isNil,loadVar,isAgg,underlying,Tryz.underlying267,ha,Result.andThen]
theorem qja (h:Value) (w:World):(Go.method 549 385 (.agg #[h]) "Elem").run Tryz.prog w=.ok (353,.agg #[h]) w:=by kernel_rfl
theorem qeo (h:Value) (w:World):(Go.method 549 385 (.agg #[h]) "Implements").run Tryz.prog w=.ok (354,.agg #[h]) w:=by kernel_rfl
theorem qds (h:Value) (w:World):(Go.method 549 385 (.agg #[h]) "AssignableTo").run Tryz.prog w=.ok (351,.agg #[h]) w:=by kernel_rfl
theorem qrb (w:World):(ReflectliteType.method ReflectliteType.elem #[.agg #[.pointer (some ⟨7,267,none⟩)]]).run Tryz.prog w=.ok (.iface 385 (.agg #[.pointer (some ⟨7,135,none⟩)])) w:=by kernel_rfl
theorem qhi (w:World):(ReflectliteType.relation "Implements" ReflectliteType.implements_ #[.agg #[.pointer (some ⟨7,135,none⟩)],.iface 385 (.agg #[.pointer (some ⟨7,49,none⟩)])]).run Tryz.prog w=.ok (.bool true) w:=by kernel_rfl
theorem qmq (v:Value) (w:World):(ReflectliteType.typeOf #[.iface 135 v]).run Tryz.prog w=.ok (.iface 385 (.agg #[.pointer (some ⟨7,135,none⟩)])) w:=by kernel_rfl
theorem qhh (w:World):(ReflectliteType.relation "AssignableTo" ReflectliteType.assignableTo #[.agg #[.pointer (some ⟨7,135,none⟩)],.iface 385 (.agg #[.pointer (some ⟨7,135,none⟩)])]).run Tryz.prog w=.ok (.bool true) w:=by kernel_rfl
theorem qk9 (e:Addr) (w:World):(ReflectliteValue.unpack (.iface 135 (.pointer (some e)))).run Tryz.prog w
  = .ok (.agg #[.pointer (some ⟨7,135,none⟩),.pointer (some ⟨w.heap.size,0,none⟩),.int .u64 150]) (w.alloc (.cells #[.pointer (some e)] 135)):=by kernel_rfl
theorem qmo (w:World):(Rtype.elem? 267).run Tryz.prog w=.ok (some 135) w:=by kernel_rfl
theorem qwo (p:Addr) (w:World):(ReflectliteValue.mk 135 p ReflectliteValue.flagAddr).run Tryz.prog w=.ok (.agg #[.pointer (some ⟨7,135,none⟩),.pointer (some p),.int .u64 406]) w:=by kernel_rfl
theorem qnw (a p:Addr) (W:World) (ha:W.cell? a=some (.pointer (some p))) :
  (ReflectliteValue.method (ReflectliteValue.valueError "reflectlite.Value.Elem" 0) ReflectliteValue.elem #[.agg #[.pointer (some ⟨7,267,none⟩),.pointer (some a),.int .u64 150]]).run Tryz.prog W
   = .ok (.agg #[.pointer (some ⟨7,135,none⟩),.pointer (some p),.int .u64 406]) W:=by
 rw [rlm];simp only [Sem.run_bind,qik,Result.andThen];simp [ReflectliteValue.elem,loadVar,isAgg,underlying,Tryz.underlying267,ha,Result.andThen,qmo,qwo]
theorem rls (v x:Value):ReflectliteValue.set #[v,x]=(do
  let (some (dst,a,fl),some (src,b,_)):=(← ReflectliteValue.parts v,← ReflectliteValue.parts x)
   | unsupported (.noEntry "extern/(internal/reflectlite.Value).Set.zeroValue")
  if fl/ReflectliteValue.flagAddr%2==0 then unsupported (.noEntry "extern/(internal/reflectlite.Value).Set.unaddressable")
  let val ← loadVar src b
  if ← Rtype.directlyAssignable dst src then storeVar dst a val
  else if ← Rtype.implements dst src then
   if (← Rtype.kind src)==20 then
    match val with
    | .nilIface=>unsupported (.noEntry "extern/reflectlite: a nil value of one interface type handed on as a value of another")
    | _=>storeVar dst a val
   else storeVar dst a (.iface src val)
  else panicString ("reflectlite.Set: value of type "++(← Rtype.spelt src)++ " is not assignable to type "++(← Rtype.spelt dst))
  pure (.tuple #[])):=rfl
theorem qmp (a:Addr) (w:World):(ReflectliteValue.parts (.agg #[.pointer (some ⟨7,135,none⟩),.pointer (some a),.int .u64 406])).run Tryz.prog w=.ok (some (135,a,406)) w:=by kernel_rfl
theorem qny (a:Addr) (w:World):(ReflectliteValue.parts (.agg #[.pointer (some ⟨7,135,none⟩),.pointer (some a),.int .u64 150])).run Tryz.prog w=.ok (some (135,a,150)) w:=by kernel_rfl
theorem qmn (w:World):(Rtype.directlyAssignable 135 135).run Tryz.prog w=.ok true w:=by kernel_rfl
theorem qt9 (ta b e:Addr) (old:Value) (W:World) (hb:W.cell? b=some (.pointer (some e))) (ht:W.cell? ta=some old) (hf:W.frozen? ta=false) :
  (ReflectliteValue.set #[.agg #[.pointer (some ⟨7,135,none⟩),.pointer (some ta),.int .u64 406],.agg #[.pointer (some ⟨7,135,none⟩),.pointer (some b),.int .u64 150]]).run Tryz.prog W
   = .ok (.tuple #[]) (W.setCell ta (.pointer (some e))):=by
 rw [rls];simp only [Sem.run_bind,qmp,qny,Result.andThen];simp [ReflectliteValue.flagAddr,loadVar,isAgg,underlying,Tryz.underlying135,hb,Result.andThen,qmn,storeVar,Value.cells,storeCells,Addr.add];rw [run_store Tryz.prog W ta _ _ (by rfl)];simp [ht,hf]
set_option maxHeartbeats 4000000 in
theorem qzu (e t:Addr) (old:Value) (w:World) (hg:w.cell? ⟨1,0,none⟩=some (.iface 385 (.agg #[.pointer (some ⟨7,49,none⟩)]))) (ht0:w.cell? t=some old) (hf0:w.frozen? t=false) :
  Calls Tryz.prog 163 #[.iface 135 (.pointer (some e)),.iface 267 (.pointer (some t))] w fun ev w'=>ev=.returned (.bool true)∧w'=((((w.alloc (.cells #[.pointer (some t)] 267)).alloc (.cells #[.pointer (some ⟨7,267,none⟩),.pointer (some ⟨w.heap.size,0,none⟩),.int .u64 150] 335)).alloc (.cells #[.pointer (some ⟨7,267,none⟩),.pointer (some ⟨w.heap.size,0,none⟩),.int .u64 150] 335)).alloc (.cells #[.pointer (some e)] 135)).setCell t (.pointer (some e)):=by
 have h6:=@run_callFunc_extern Tryz.prog 223 _ (fun args=>ReflectliteValue.unpack (args.getD 0 (.tuple #[]))) Tryz.func223 (by kernel_rfl) (by kernel_rfl) (by kernel_rfl) (by kernel_rfl);have h7:=@run_callFunc_extern Tryz.prog 224 _ (ReflectliteValue.methodAny (ReflectliteValue.valueError "reflectlite.Value.Type" 0) (fun t _ _ _=>ReflectliteType.toType t)) Tryz.func224 (by kernel_rfl) (by kernel_rfl) (by kernel_rfl) (by kernel_rfl);have h8:=@run_callFunc_extern Tryz.prog 225 _ (ReflectliteValue.method (ReflectliteValue.valueError "reflectlite.Value.IsNil" 0) ReflectliteValue.isNil) Tryz.func225 (by kernel_rfl) (by kernel_rfl) (by kernel_rfl) (by kernel_rfl);have h27:=@run_callFunc_extern Tryz.prog 337 _ (ReflectliteType.abiMethod fun t=>do pure (.int .u8 (← Rtype.kind t))) Tryz.func337 (by kernel_rfl) (by kernel_rfl) (by kernel_rfl) (by kernel_rfl);have h37:=@run_callFunc_extern Tryz.prog 353 _ (ReflectliteType.method ReflectliteType.elem) Tryz.func353 (by kernel_rfl) (by kernel_rfl) (by kernel_rfl) (by kernel_rfl);have h38:=@run_callFunc_extern Tryz.prog 354 _ (ReflectliteType.relation "Implements" ReflectliteType.implements_) Tryz.func354 (by kernel_rfl) (by kernel_rfl) (by kernel_rfl) (by kernel_rfl);have h10:=@run_callFunc_extern Tryz.prog 277 _ ReflectliteType.typeOf Tryz.func277 (by kernel_rfl) (by kernel_rfl) (by kernel_rfl) (by kernel_rfl);have h35:=@run_callFunc_extern Tryz.prog 351 _ (ReflectliteType.relation "AssignableTo" ReflectliteType.assignableTo) Tryz.func351 (by kernel_rfl) (by kernel_rfl) (by kernel_rfl) (by kernel_rfl);have h11:=@run_callFunc_extern Tryz.prog 278 _ (ReflectliteValue.method (ReflectliteValue.valueError "reflectlite.Value.Elem" 0) ReflectliteValue.elem) Tryz.func278 (by kernel_rfl) (by kernel_rfl) (by kernel_rfl) (by kernel_rfl);have h12:=@run_callFunc_extern Tryz.prog 279 _ ReflectliteValue.set Tryz.func279 (by kernel_rfl) (by kernel_rfl) (by kernel_rfl) (by kernel_rfl);have tO:=qmq;have mA:=qds;have a25:=qhh;have v25:=qk9;have f6:=qla;have f7:=qre;have mK:=qjb;have mE:=qja;have mI:=qeo;have k27:=qrd;have k25:=qrc;have e27:=qrb;have i25:=qhi;have n8:=qnx ⟨w.heap.size,0,none⟩ t ((w.alloc (.cells #[.pointer (some t)] 267)).alloc (.cells #[.pointer (some ⟨7,267,none⟩),.pointer (some ⟨w.heap.size,0,none⟩),.int .u64 150] 335)) (by simp);have hlt:1<w.heap.size:=by
  rcases Nat.lt_or_ge 1 w.heap.size with h|h
  ·exact h
  ·simp [World.cell?,Array.getElem?_eq_none h] at hg
 have hg2:((w.alloc (.cells #[.pointer (some t)] 267)).alloc (.cells #[.pointer (some ⟨7,267,none⟩),.pointer (some ⟨w.heap.size,0,none⟩),.int .u64 150] 335)).cell? ⟨1,0,none⟩=some (.iface 385 (.agg #[.pointer (some ⟨7,49,none⟩)])):=by
  rw [World.cell?_alloc_lt _ _ ⟨1,0,none⟩ (by simp;omega),World.cell?_alloc_lt _ _ ⟨1,0,none⟩ hlt];exact hg
 have htl:t.block<w.heap.size:=by
  rcases Nat.lt_or_ge t.block w.heap.size with h|h
  ·exact h
  ·simp [World.cell?,Array.getElem?_eq_none h] at ht0
 have el:=qnw ⟨w.heap.size,0,none⟩ t (((w.alloc (.cells #[.pointer (some t)] 267)).alloc (.cells #[.pointer (some ⟨7,267,none⟩),.pointer (some ⟨w.heap.size,0,none⟩),.int .u64 150] 335)).alloc (.cells #[.pointer (some ⟨7,267,none⟩),.pointer (some ⟨w.heap.size,0,none⟩),.int .u64 150] 335)) (by rw [World.cell?_alloc_lt _ _ ⟨w.heap.size,0,none⟩ (by simp;omega)];simp);have st:=qt9 t ⟨w.heap.size+1+1+1,0,none⟩ e old ((((w.alloc (.cells #[.pointer (some t)] 267)).alloc (.cells #[.pointer (some ⟨7,267,none⟩),.pointer (some ⟨w.heap.size,0,none⟩),.int .u64 150] 335)).alloc (.cells #[.pointer (some ⟨7,267,none⟩),.pointer (some ⟨w.heap.size,0,none⟩),.int .u64 150] 335)).alloc (.cells #[.pointer (some e)] 135))
  (by rw [World.cell?_alloc_at _ _ _ _ (by simp)];rfl)
  (by rw [World.cell?_alloc_lt _ _ t (by simp;omega),World.cell?_alloc_lt _ _ t (by simp;omega),World.cell?_alloc_lt _ _ t (by simp;omega),World.cell?_alloc_lt _ _ t htl];exact ht0)
  (by rw [World.frozen?_alloc_old _ _ t (by simp;omega),World.frozen?_alloc_old _ _ t (by simp;omega),World.frozen?_alloc_old _ _ t (by simp;omega),World.frozen?_alloc_old _ _ t (Nat.ne_of_lt htl)];exact hf0)
 go_enter Tryz.func163,Tryz.ntmps163
 go_wp2
 refine wp_loop_rounds 1 ?_;rw [rounds_succ]
 go_wp2
 go_ret
 exact ⟨rfl,rfl⟩
end Go.Proofs.YtajgbepghniciaaGreatDoor
