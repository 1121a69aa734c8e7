/- Lemmas and contracts of functions on the way to the law's card (part 8 of 16). -/
import Derived.Test.YtccmcfpmknpccaaGreatDoorSH7
import Derived.OrdersIn
namespace Go.Proofs.YtccmcfpmknpccaaGreatDoor
set_option maxHeartbeats 8000000
open Go.RowKit V
theorem qix:∀ a b:LB,comL a b≤a.length∧comL a b≤b.length∧a.take (comL a b)=b.take (comL a b)
 | [],[]=>⟨Nat.le_refl _,Nat.le_refl _,rfl⟩
 | [],_::_=>⟨Nat.zero_le _,Nat.zero_le _,rfl⟩
 | _::_,[]=>⟨Nat.zero_le _,Nat.zero_le _,rfl⟩
 | x::a,y::b=>by
  by_cases h:x=y
  ·subst h;obtain ⟨h1,h2,h3⟩:=qix a b;rw [comL,if_pos rfl];exact ⟨by simpa using h1,by simpa using h2,by rw [List.take_succ_cons,List.take_succ_cons,h3]⟩
  ·rw [comL,if_neg h];exact ⟨Nat.zero_le _,Nat.zero_le _,rfl⟩
def entE (first:Bool) (ahead s:LB):LB:=
 if first then varL s.length++s else varL (comL ahead s)++(varL (s.length-comL ahead s)++s.drop (comL ahead s))
theorem qf {α:Type} (a b:List α):(a++b).drop a.length=b:=by simp
theorem qns {first:Bool} {ahead s:LB} (r:LB) (hs:s.length≤262144) (ha:ahead.length≤262144):entG (entE first ahead s++r) first ahead=(s,(entE first ahead s).length,0):=by
 cases first with
 | true=>
  have e:entE true ahead s=varL s.length++s:=by rfl
  grind [qa4,entG]
 | false=>
  have e:entE false ahead s=varL (comL ahead s)++(varL (s.length-comL ahead s)++s.drop (comL ahead s)):=by rfl
  obtain ⟨c1,c2,c3⟩:=qix ahead s;rw [e,List.append_assoc,List.append_assoc];have h1:=qa4 (n:=comL ahead s) Oo (varL (s.length-comL ahead s)++(s.drop (comL ahead s)++r));have h2:=qa4 (n:=s.length-comL ahead s) Oo (s.drop (comL ahead s)++r);unfold entG;rw [if_neg Bool.false_ne_true,h1];dsimp only;rw [if_neg Oo,qf,h2];dsimp only;rw [if_neg Oo,if_neg Oo,if_neg Oo,if_neg Js,c3,← List.drop_drop,qf,qf]
  grind [zld,List.take_append_drop]
def tx (L:List LB) (i:Nat):LB:=L.getD i []
def arL (L:List LB):Nat→LB
 | 0=>[]
 | i+1=>arL L i++entE (decide (i%16=0)) (if i=0 then [] else tx L (i-1)) (tx L i)
theorem qli (L:List LB) {i:Nat}:∀ {n:Nat},i≤n→∃ r,arL L n=arL L i++r
 | 0,h=>⟨[],by simp_all⟩
 | n+1,h=>by
  by_cases e:i=n+1
  ·simp_all
  ·obtain ⟨r,hr⟩:=qli L (i:=i) (n:=n) Oo
   grind [arL]
theorem qrz (L:List LB) {i n:Nat} (h:i<n):∃ r,(arL L n).drop (arL L i).length=entE (decide (i%16=0)) (if i=0 then [] else tx L (i-1)) (tx L i)++r:=by
 obtain ⟨r,hr⟩:=qli L (i:=i+1) (n:=n) h
 grind [arL]
def byt (f:Nat→Nat) (b:Nat):Nat:=
 f (8*b)%2+2*(f (8*b+1)%2)+4*(f (8*b+2)%2)+8*(f (8*b+3)%2)+16*(f (8*b+4)%2)+32*(f (8*b+5)%2)+64*(f (8*b+6)%2)+128*(f (8*b+7)%2)
theorem qr7 (f:Nat→Nat) (b:Nat):byt f b<256:=by unfold byt;omega
theorem q7e (f:Nat→Nat) (b:Nat):∀ {r:Nat},r<8→byt f b/2 ^ r%2=f (8*b+r)%2
 | 0,_=>by grind [byt]
 | 1,_=>by unfold byt;simp;omega
 | 2,_=>by unfold byt;simp;omega
 | 3,_=>by unfold byt;simp;omega
 | 4,_=>by unfold byt;simp;omega
 | 5,_=>by unfold byt;simp;omega
 | 6,_=>by unfold byt;simp;omega
 | 7,_=>by grind [byt]
 | _+8,h=>by omega
def qb0 (f:Nat→Nat) (n:Nat):LB:=(List.range n).map fun b=>UInt8.ofNat (byt f b)
theorem qc8 (f:Nat→Nat) (n:Nat):(qb0 f n).length=n:=by simp [qb0]
theorem q2c (f:Nat→Nat) {n b:Nat} (h:b<n):((qb0 f n).getD b 0).toNat=byt f b:=by
 grind [qb0,qav,qr7]
theorem qfn (f:Nat→Nat) {n t:Nat} (h:t<8*n):bitN (qb0 f n) t=f t%2:=by
 grind [bitN,q2c,q7e]
def qc4 (l:List Nat) (w:Nat):LB:=qb0 (fun t=>l.getD (t/w) 0/2 ^ (t%w)) ((l.length*w+7)/8)
theorem qbz (l:List Nat) (w:Nat):(qc4 l w).length=(l.length*w+7)/8:=qc8 _ _
theorem qz3 {l:List Nat} {w i k:Nat} (hi:i<l.length) (hk:k<w):bitN (qc4 l w) (i*w+k)=l.getD i 0/2 ^ k%2:=by
 have h1:(i+1)*w≤l.length*w:=Nat.mul_le_mul_right _ hi;rw [Nat.add_mul] at h1;have e1:(i*w+k)/w=i:=by grind [Nat.mul_comm,Nat.mul_add_div,Nat.div_eq_of_lt]
 grind [Nat.mul_comm,Nat.mul_add_mod,Nat.mod_eq_of_lt,qc4,qfn]
theorem qkx {l:List Nat} {w i:Nat} (hi:i<l.length):∀ {k:Nat},k≤w→valB (qc4 l w) (i*w) k=l.getD i 0%2 ^ k
 | 0,_=>by rw [valB,Nat.pow_zero,Nat.mod_one]
 | k+1,h=>by
  rw [valB,qkx hi Oo,qz3 hi Oo,Nat.mod_pow_succ,Nat.mul_comm (2 ^ k)]
theorem qjh {l:List Nat} {w i:Nat} (hi:i<l.length) (h:l.getD i 0<2 ^ w):valB (qc4 l w) (i*w) w=l.getD i 0:=by
 grind [qkx,Nat.mod_eq_of_lt]
theorem qod (l:List Nat) (w:Nat):¬ PadB (qc4 l w) (l.length*w):=by
 rintro ⟨t,h1,h2,h3⟩;rw [qbz] at h2;rw [qc4,qfn _ h2] at h3;have hw:0<w:=by
  grind
 simp_all [Nat.le_div_iff_mul_le]
theorem qmc:∀ {n:Nat},n<18446744073709551616→n<2 ^ qaf n:=by
 intro n
 induction n using Nat.strongRecOn<;>grind [qeu]
def plcL (L:List LB):List Nat:=(List.range (upN L.length 16)).map fun k=>(arL L (16*k)).length
def qal (L:List LB):LB:=arL L L.length
def qk (L:List LB):LB:=varL L.length++(varL (qal L).length++(qc4 (plcL L) (qaf (qal L).length)++qal L))
structure DOk (L:List LB):Prop where
 n:L.length≤4194304
 len:∀ i,(tx L i).length≤262144
 rise:∀ i,i+1<L.length→leL (tx L (i+1)) (tx L i)=false
 area:(qal L).length≤67108864
theorem qii (L:List LB):(plcL L).length=upN L.length 16:=by simp [plcL]
theorem qz8 {L:List LB} {k:Nat} (h:k<upN L.length 16):(plcL L).getD k 0=(arL L (16*k)).length:=by
 grind [plcL]
section
variable {L:List LB} (h:DOk L)
include h
theorem DOk.num0:numL (qk L)=(L.length,(varL L.length).length,0):=qa4 (by have:=h.n;omega) _
theorem DOk.vAt1:vAt (qk L) 1=(varL L.length).length:=by rw [vAt,vAt,List.drop_zero,h.num0,Nat.zero_add]
theorem DOk.drop1:(qk L).drop (varL L.length).length=varL (qal L).length++(qc4 (plcL L) (qaf (qal L).length)++qal L):=have _h:=h;qf _ _
theorem DOk.num1:numL ((qk L).drop (vAt (qk L) 1))=((qal L).length,(varL (qal L).length).length,0):=by
 rw [h.vAt1,h.drop1];exact qa4 (by have:=h.area;omega) _
theorem DOk.eN:dN (qk L)=L.length:=by rw [dN,vNum,vAt,List.drop_zero,h.num0]
theorem DOk.eSize:qun (qk L)=(qal L).length:=by rw [qun,vNum,h.num1]
theorem DOk.eThird:qcb (qk L)=(varL L.length).length+(varL (qal L).length).length:=by rw [qcb,vAt,h.num1,h.vAt1]
theorem DOk.eFourth:qx (qk L)=(varL L.length).length+(varL (qal L).length).length+(qc4 (plcL L) (qaf (qal L).length)).length:=by
 rw [qx,h.eThird,h.eN,dW,h.eSize,qbz,qii]
theorem DOk.eEntries:qc (qk L)=qal L:=by
 rw [qc,h.eFourth,← List.drop_drop,← List.drop_drop,h.drop1,qf,qf]
theorem DOk.ePlaces:qai (qk L)=qc4 (plcL L) (qaf (qal L).length):=by
 rw [qai,h.eFourth,h.eThird,← List.drop_drop,h.drop1,qf,Nat.add_sub_cancel_left,List.take_append_of_le_length znr,List.take_length]
theorem DOk.len_eq:(qk L).length=(varL L.length).length+(varL (qal L).length).length+(qc4 (plcL L) (qaf (qal L).length)).length+(qal L).length:=by
 have _:=h;grind [qk]
theorem DOk.eE:(dE (qk L)).2=0:=by
 have h2:(errF (dhF (qk L)) 2).2=0:=qbf fun k hk=>by
  have hn:=h.n;have ha:=h.area
  match k,hk with
  | 0,_=>rw [dhF,if_pos rfl,qg9 (by rw [vAt,List.drop_zero,h.num0]) (by rw [show vNum (qk L) 0=_ from h.eN];exact hn)]
  | 1,_=>rw [dhF,if_neg Od,qg9 (by rw [h.num1]) (by rw [show vNum (qk L) 1=_ from h.eSize];exact ha)]
 rw [dE,if_neg Oo,dEnd,h.eFourth,h.eSize,h.len_eq,if_neg Oo,if_neg Oo]
theorem DOk.ePlace {k:Nat} (hk:k<upN L.length 16):qy (qk L) k=(arL L (16*k)).length:=by
 have ha:=h.area;have hn:16*k≤L.length:=by grind [upN]
 obtain ⟨r,hr⟩:=qli L hn;have hl:(arL L (16*k)).length≤(qal L).length:=by grind [qal]
 rw [qy,h.ePlaces,dW,h.eSize,qjh (by rw [qii];exact hk),qz8 hk]
 grind [qz8,qmc]
theorem DOk.eSt:∀ {i:Nat},i≤L.length→dSt (qk L) i=(if i=0 then [] else tx L (i-1),(arL L i).length)
 | 0,_=>by rfl
 | i+1,hi=>by
  have ih:=DOk.eSt (i:=i) Oo;obtain ⟨r,hr⟩:=qrz L (i:=i) (n:=L.length) hi;have ha:(if i=0 then [] else tx L (i-1)).length≤262144:=by split;exact Nat.zero_le _;exact h.len _
  rw [q2s ih rfl,h.eEntries,qal,hr,qns r (h.len i) ha,arL,zla,if_neg (Nat.succ_ne_zero i),Nat.add_sub_cancel]
theorem DOk.ent {i:Nat} (hi:i<L.length):∃ r,(qc (qk L)).drop (dSt (qk L) i).2=entE (decide (i%16=0)) (dSt (qk L) i).1 (tx L i)++r:=by
 obtain ⟨r,hr⟩:=qrz L (i:=i) (n:=L.length) hi;refine ⟨r,?_⟩;rw [h.eSt Oo,h.eEntries];exact hr
theorem DOk.enF {i:Nat} (hi:i<L.length):(dnF (qk L) i).2=0:=by
 obtain ⟨r,hr⟩:=h.ent hi;have hl:(dSt (qk L) i).1.length≤262144:=by rw [h.eSt Oo];show (if _ then _ else _:LB).length≤_;split;exact Nat.zero_le _;exact h.len _
 have hE:=qns (first:=decide (i%16=0)) r (h.len i) hl;have hs1:(dSt (qk L) (i+1)).1=tx L i:=by rw [h.eSt Oo,if_neg (Nat.succ_ne_zero i),Nat.add_sub_cancel]
 rw [dnF,hr,hE,hs1];rw [if_neg (fun g=>g.2 (by rw [h.ePlace (by unfold upN;omega),h.eSt Oo,show 16*(i/16)=i by omega]))];rw [if_neg Js];rw [if_neg (fun g=>by
  have:=h.rise (i-1) Oo;rw [show i-1+1=i by omega] at this;rw [h.eSt Oo,if_neg Oo] at g
  simp_all)]
 grind [entE,qa4,qix,qnk]
theorem DOk.eoE:doE (qk L)=(0,0):=by
 refine qabk h.eE ?_ (fun j hj=>h.enF (by rw [← h.eN];exact hj)) ?_
 ·refine Classical.byContradiction fun g=>?_;have:=(qzv _ _ _).1 g;rw [h.ePlaces,h.eN,dW,h.eSize,← qii] at this;exact qod _ _ this
 ·rw [h.eN,h.eSt znr,h.eEntries];exact Nat.lt_irrefl _
theorem DOk.eGet {i:Nat} (hi:i<L.length):dGet (qk L) i=some (tx L i):=by
 have h1:=(qpu (m:=qk L) (i:=i+1) fun k hk=>h.enF Oo).2 Oo (by rw [h.eN];omega);rw [Nat.add_sub_cancel,h.eSt Oo,if_neg Oo,Nat.add_sub_cancel] at h1;exact h1
end
def jo3 (a b c:LB):LB:=varL a.length++(varL b.length++(varL c.length++(a++(b++c))))
section
variable {a b c:LB} (h:a.length+b.length+c.length≤67108864)
include h
theorem qyo:numL (jo3 a b c)=(a.length,(varL a.length).length,0):=qa4 Oo _
theorem q57:vAt (jo3 a b c) 1=(varL a.length).length:=by grind [vAt,qyo]
theorem qyp:numL ((jo3 a b c).drop (vAt (jo3 a b c) 1))=(b.length,(varL b.length).length,0):=by
 grind [q57,jo3,qa4]
theorem q58:vAt (jo3 a b c) 2=(varL a.length).length+(varL b.length).length:=by rw [vAt,qyp h,q57 h]
theorem qyq:numL ((jo3 a b c).drop (vAt (jo3 a b c) 2))=(c.length,(varL c.length).length,0):=by
 grind [q58,jo3,qa4]
theorem q59:vAt (jo3 a b c) 3=(varL a.length).length+(varL b.length).length+(varL c.length).length:=by rw [vAt,qyq h,q58 h]
theorem qyr:vNum (jo3 a b c) 0=a.length:=by grind [vNum,vAt,qyo]
theorem qys:vNum (jo3 a b c) 1=b.length:=by rw [vNum,qyp h]
theorem qyt:vNum (jo3 a b c) 2=c.length:=by rw [vNum,qyq h]
theorem q6b:q8 (jo3 a b c) 1=vAt (jo3 a b c) 3+a.length:=by rw [q8,q8,qyr h]
theorem q6c:q8 (jo3 a b c) 2=vAt (jo3 a b c) 3+a.length+b.length:=by rw [q8,q6b h,qys h]
theorem qabv:q8 (jo3 a b c) 3=vAt (jo3 a b c) 3+a.length+b.length+c.length:=by rw [q8,q6c h,qyt h]
theorem ql8:(jo3 a b c).drop (vAt (jo3 a b c) 3)=a++(b++c):=by
 rw [q59 h,jo3,← List.drop_drop,← List.drop_drop,qf,qf,qf]
theorem q77:(jo3 a b c).length=vAt (jo3 a b c) 3+a.length+b.length+c.length:=by
 grind [q59,jo3]
theorem qabw:(sE (jo3 a b c)).2=0:=by
 have h2:(errF (vsF (jo3 a b c)) 3).2=0:=qbf fun k hk=>by
  match k,hk with
  | 0,_=>grind [vsF,qg9,vAt,qyo,qyr]
  | 1,_=>grind [vsF,qg9,qyp,qys]
  | 2,_=>grind [vsF,qg9,qyq,qyt]
 grind [sE,qabv,q77]
theorem qabs:sDict (jo3 a b c) 0=a:=by
 grind [sDict,q8,ql8,qyr]
theorem qabt:sDict (jo3 a b c) 1=b:=by
 grind [sDict,q6b,List.drop_drop,ql8,qys,List.take_left]
theorem qabu:sDict (jo3 a b c) 2=c:=by
 grind [sDict,q6c,List.drop_drop,ql8,qf,qyt]
end
def secE (T:List TM) (k:Nat):List LB:=(T.filter fun t=>decide (t.kind=((k+1:Nat):Int))).map qae
def vocB (T:List TM):LB:=jo3 (qk (secE T 0)) (qk (secE T 1)) (qk (secE T 2))
structure VOk (T:List TM):Prop where
 d:∀ k,k<3→DOk (secE T k)
 size:(qk (secE T 0)).length+(qk (secE T 1)).length+(qk (secE T 2)).length≤67108864
section
variable {T:List TM} (h:VOk T)
include h
theorem VOk.sDict {k:Nat} (hk:k<3):sDict (vocB T) k=qk (secE T k):=
 match k,hk with
 | 0,_=>qabs h.size
 | 1,_=>qabt h.size
 | 2,_=>qabu h.size
theorem VOk.sE:(sE (vocB T)).2=0:=qabw h.size
theorem VOk.doE {k:Nat} (hk:k<3):(doE (Go.Proofs.YtccmcfpmknpccaaGreatDoor.sDict (vocB T) k)).2=0:=by rw [h.sDict hk,(h.d k hk).eoE]
theorem VOk.dN {k:Nat} (hk:k<3):dN (Go.Proofs.YtccmcfpmknpccaaGreatDoor.sDict (vocB T) k)=(secE T k).length:=by rw [h.sDict hk,(h.d k hk).eN]
theorem VOk.get {k j:Nat} (hk:k<3) (hj:j<(secE T k).length):dGet (Go.Proofs.YtccmcfpmknpccaaGreatDoor.sDict (vocB T) k) j=some (tx (secE T k) j):=by rw [h.sDict hk,(h.d k hk).eGet hj]
theorem VOk.wE:(wE (vocB T)).2=0:=by
 rw [Go.Proofs.YtccmcfpmknpccaaGreatDoor.wE,if_neg (by rw [h.sE];omega)];exact qbf fun k hk=>by rw [sdF,if_pos (qsl (h.doE hk)).1]
theorem VOk.vwE (ht:∀ t∈T,qa5 t=0):(vwE (vocB T)).2=0:=by
 refine qadd h.sE (fun k hk=>h.doE hk) fun k hk=>qadc fun j hj hb=>?_;rw [h.dN hk] at hj;obtain ⟨s,hs,hn⟩:=hb;rw [h.get hk hj] at hs;cases hs;have hj':j<(T.filter fun t=>decide (t.kind=((k+1:Nat):Int))).length:=by grind [secE]
 have hm:=List.getElem_mem hj';have hm2:=List.mem_filter.1 hm;refine hn _ ⟨by simp_all,ht _ hm2.1,?_⟩
 grind [tx,secE]
end
section
variable {d:LB} {n:Nat} (hn:n≤67108864) (hd:d.length=upN n 8)
include hn
theorem qci:vN (qac d n)=n:=by
 grind [qac,qh,vN,qg0]
theorem qet:vM (qac d n)=cnt d n:=by
 have hc:=qd0 d n;have e:((qac d n).drop 4).take 4=fixL (cnt d n) 4:=by
  rfl
 grind [vM,qg0]
include hd
theorem qgk:vD (qac d n)=d:=by
 rw [vD,qci hn]
 simp_all [qac,fixL]
theorem qj4:vOk (qac d n)=true:=by
 grind [qeg,qd0,vOk,qci,qet,qba,qam,qz,qi]
theorem q5q (hp:¬ PadB d n):voE (qac d n)=(0,0):=by
 grind [qadb,qgk,qci,qet]
end
def frU (Q:Nat→Nat→Nat) (i:Nat):Nat→Bool
 | 0=>i==0||Q i 0 != Q (i-1) 0
 | k+1=>frU Q i k||Q i (k+1) != Q (i-1) (k+1)
theorem qfw (Q:Nat→Nat→Nat):∀ k,frU Q 0 k=true
 | 0=>rfl
 | k+1=>by rw [frU,qfw Q k];rfl
theorem qny {Q:Nat→Nat→Nat} {i k:Nat} (h:frU Q i k=true):∀ {m:Nat},k≤m→frU Q i m=true
 | 0,hm=>by rwa [Nat.le_zero.1 hm] at h
 | m+1,hm=>by
  by_cases e:k=m+1
  ·rwa [e] at h
  ·rw [frU,qny h (m:=m) Oo];rfl
theorem qfv {Q:Nat→Nat→Nat} {i:Nat}:∀ {k:Nat},frU Q i k=false→0<i∧∀ j,j≤k→Q i j=Q (i-1) j
 | 0,h=>by
  grind [frU]
 | k+1,h=>by
  simp only [frU,Bool.or_eq_false_iff,bne_eq_false_iff_eq] at h;obtain ⟨h1,h2⟩:=qfv h.1
  grind
theorem qx6 {Q:Nat→Nat→Nat} {i:Nat} (h0:0<i):∀ {k:Nat},(∀ j,j≤k→Q i j=Q (i-1) j)→frU Q i k=false
 | 0,h=>by simp only [frU,Bool.or_eq_false_iff,beq_eq_false_iff_ne,bne_eq_false_iff_eq];exact ⟨by omega,h 0 znr⟩
 | k+1,h=>by
  rw [frU,qx6 h0 fun j hj=>h j Oo];simp only [Bool.false_or,bne_eq_false_iff_eq];exact h (k+1) znr
def nuT (Q:Nat→Nat→Nat) (k:Nat):Nat→List Nat
 | 0=>[]
 | i+1=>if frU Q i k=true then nuT Q k i++[Q i k] else nuT Q k i
def stT (Q:Nat→Nat→Nat) (k:Nat):Nat→List Bool
 | 0=>[]
 | i+1=>if frU Q i (k+1)=true then stT Q k i++[frU Q i k] else stT Q k i
def leT (Q:Nat→Nat→Nat) (k i:Nat):Nat:=(nuT Q k i).length
section
variable {Q:Nat→Nat→Nat}
theorem qa3 {k i:Nat} (h:frU Q i k=true):leT Q k (i+1)=leT Q k i+1:=by grind [leT,nuT]
theorem qbd {k i:Nat} (h:frU Q i k=false):leT Q k (i+1)=leT Q k i:=by grind [leT,nuT]
theorem qsy (k:Nat):∀ i,leT Q k i≤i
 | 0=>Nat.le_refl _
 | i+1=>by
  have:=qsy k i;cases h:frU Q i k with
  | true=>rw [qa3 h];omega
  | false=>rw [qbd h];omega
theorem qd2 (k:Nat) {i:Nat} (h:0<i):0<leT Q k i:=by
 induction i with
 | zero=>omega
 | succ i ih=>
  by_cases e:i=0
  ·grind [qa3,qfw]
  ·have:=ih Oo;cases h:frU Q i k<;>grind [qa3,qbd]
theorem qa2 (k:Nat) {a:Nat}:∀ {b:Nat},a≤b→leT Q k a≤leT Q k b
 | 0,h=>by rw [Nat.le_zero.1 h];exact Nat.le_refl _
 | b+1,h=>by
  by_cases e:a=b+1
  ·rw [e];exact Nat.le_refl _
  ·have:=qa2 k (a:=a) (b:=b) Oo;cases h:frU Q b k with
   | true=>rw [qa3 h];omega
   | false=>rw [qbd h];omega
theorem qn8 (k:Nat):∀ i,leT Q k i≤leT Q (k+1) i
 | 0=>Nat.le_refl _
 | i+1=>by
  have:=qn8 k i;cases h:frU Q i k with
  | true=>rw [qa3 h,qa3 (qny h (m:=k+1) (Nat.le_succ k))];omega
  | false=>
   rw [qbd h];cases h2:frU Q i (k+1) with
   | true=>rw [qa3 h2];omega
   | false=>rw [qbd h2];omega
theorem qbn (k:Nat):∀ i,(stT Q k i).length=leT Q (k+1) i
 | 0=>rfl
 | i+1=>by
  have:=qbn k i;cases h:frU Q i (k+1) with
  | true=>rw [qa3 h,stT,if_pos h];simp [this]
  | false=>rw [qbd h,stT,if_neg (by rw [h];decide),this]
theorem qjw (k:Nat):∀ i,(stT Q k i).count true=leT Q k i
 | 0=>rfl
 | i+1=>by
  have:=qjw k i;cases h:frU Q i (k+1) with
  | true=>
   rw [stT,if_pos h,List.count_append,this];cases h2:frU Q i k with
   | true=>rw [qa3 h2];rfl
   | false=>rw [qbd h2];rfl
  | false=>
   have h2:frU Q i k=false:=by
    cases h2:frU Q i k with
    | true=>rw [qny h2 (m:=k+1) (Nat.le_succ k)] at h;cases h
    | false=>rfl
   rw [qbd h2,stT,if_neg (by rw [h];decide),this]
theorem qkv (k:Nat):∀ {i n:Nat},i<n→(nuT Q k n).getD (leT Q k (i+1)-1) 0=Q i k
 | i,0,h=>by omega
 | i,n+1,h=>by
  by_cases e:i=n
  ·subst e;cases h2:frU Q i k with
   | true=>
    rw [qa3 h2,Nat.add_sub_cancel,nuT,if_pos h2,List.getD_eq_getElem?_getD];simp [leT]
   | false=>
    have h3:=qfv h2;have h4:=qkv k (i:=i-1) (n:=i) Oo;rw [qbd h2,nuT,if_neg (by rw [h2];decide)];rw [Nat.sub_add_cancel Oo] at h4;rw [h4];exact (h3.2 k znr).symm
  ·have h4:=qkv k (i:=i) (n:=n) Oo;have h5:=qa2 (Q:=Q) k (a:=i+1) (b:=n) Oo;have h6:=qd2 (Q:=Q) k (i:=i+1) Oo;cases h2:frU Q n k with
   | true=>
    rw [nuT,if_pos h2,List.getD_eq_getElem?_getD,List.getElem?_append_left (by show _<leT Q k n;omega),← List.getD_eq_getElem?_getD];exact h4
   | false=>rw [nuT,if_neg (by rw [h2];decide)];exact h4
end
def laT (S:List Bool) (t:Nat):Nat:=if t+1=S.length then 1 else if S.getD (t+1) false=true then 1 else 0
def qa0 (S:List Bool):LB:=qb0 (laT S) (upN S.length 8)
theorem qabz (S:List Bool) (t:Nat):laT S t%2=laT S t:=by
 grind [laT]
theorem qcd (S:List Bool):(qa0 S).length=upN S.length 8:=qc8 _ _
theorem qfy {S:List Bool} {t:Nat} (h:t<S.length):bitN (qa0 S) t=laT S t:=by
 grind [qa0,qfn,upN,qabz]
theorem qn6 (S:List Bool):¬ PadB (qa0 S) S.length:=by
 rintro ⟨t,h1,h2,h3⟩
 grind [qcd,qa0,qfn,laT]
theorem qk5 (S:List Bool) {e:Nat} (h:e<S.length):(S.take (e+1)).count true=(S.take e).count true+(if S.getD e false=true then 1 else 0):=by
 grind [List.take_succ_eq_append_getElem]
theorem qi6 {S:List Bool} (h0:S.getD 0 false=true):∀ {e:Nat},e<S.length→cnt (qa0 S) e+1=(S.take (e+1)).count true
 | 0,h=>by rw [qk5 S h,h0];rfl
 | e+1,h=>by
  have ih:=qi6 h0 (e:=e) Oo;rw [cnt,qk5 S h,qfy Oo,laT,if_neg Oo];omega
theorem qy0 {S:List Bool} (h0:S.getD 0 false=true) (hl:0<S.length):cnt (qa0 S) S.length=S.count true:=by
 have h1:=qi6 h0 (e:=S.length-1) Oo
 grind [cnt,qfy,laT]
theorem qmz (Q:Nat→Nat→Nat) (k:Nat) {a:Nat}:∀ {b:Nat},a≤b→∃ r,stT Q k b=stT Q k a++r
 | 0,h=>⟨[],by simp_all⟩
 | b+1,h=>by
  by_cases e:a=b+1
  ·simp_all
  ·obtain ⟨r,hr⟩:=qmz Q k (a:=a) (b:=b) Oo
   grind [stT]
theorem qt3 (Q:Nat→Nat→Nat) (k:Nat) {n:Nat} (h:0<n):(stT Q k n).getD 0 false=true:=by
 obtain ⟨r,hr⟩:=qmz Q k (a:=1) (b:=n) h
 grind [stT,qfw]
theorem qjv (Q:Nat→Nat→Nat) (k:Nat) {i n:Nat} (h:i<n):cnt (qa0 (stT Q k n)) (leT Q (k+1) (i+1)-1)=leT Q k (i+1)-1:=by
 have h1:=qd2 (Q:=Q) (k+1) (i:=i+1) Oo;have h2:=qa2 (Q:=Q) (k+1) (a:=i+1) (b:=n) h;have h3:=qi6 (S:=stT Q k n) (qt3 Q k Oo) (e:=leT Q (k+1) (i+1)-1) (by rw [qbn];omega);obtain ⟨r,hr⟩:=qmz Q k (a:=i+1) (b:=n) h
 grind [qbn,qjw]
def wiT (l:List Nat):Nat:=wMx l l.length
def lvB (Q:Nat→Nat→Nat) (n k:Nat):LB:=
 UInt8.ofNat (wiT (nuT Q k n))::(qc4 (nuT Q k n) (wiT (nuT Q k n))++(if k=0 then [] else qac (qa0 (stT Q (k-1) n)) (leT Q k n)))
def tlB (Q:Nat→Nat→Nat) (n:Nat):Nat→LB
 | 0=>[]
 | j+1=>lvB Q n (3-j)++tlB Q n j
def ql (Q:Nat→Nat→Nat) (n:Nat):LB:=
 varL (leT Q 0 n)++(varL (leT Q 1 n)++(varL (leT Q 2 n)++(varL (leT Q 3 n)++tlB Q n 4)))
structure TOk (Q:Nat→Nat→Nat) (n:Nat):Prop where
 nle:n≤1048576
 num:∀ i k,i<n→k<4→(k≠0→1≤Q i k)∧Q i k≤4194304
 rise:∀ i,0<i→i<n→∃ k,k<4∧(∀ j,j<k→Q i j=Q (i-1) j)∧Q (i-1) k<Q i k
theorem q61 {l:List Nat} {m:Nat} (h:∀ x∈l,qaf x≤m):∀ i,wMx l i≤m
 | 0=>Nat.zero_le _
 | i+1=>by
  have ih:=q61 h i;rw [wMx]
  by_cases hi:i<l.length
  ·have:=h (l.getD i 0) (by rw [List.getD_eq_getElem?_getD,zge hi];exact List.getElem_mem hi);omega
  ·rw [List.getD_eq_getElem?_getD,List.getElem?_eq_none Oo];have:qaf (Option.getD (none:Option Nat) 0)=0:=qdf;omega
theorem q60 (l:List Nat) {i:Nat}:∀ {n:Nat},i<n→qaf (l.getD i 0)≤wMx l n
 | 0,h=>by omega
 | n+1,h=>by
  rw [wMx]
  by_cases e:i=n
  ·grind
  ·have:=q60 l (i:=i) (n:=n) Oo;omega
theorem qg8 {Q:Nat→Nat→Nat} {k x:Nat}:∀ {n:Nat},x∈nuT Q k n→∃ i,i<n∧Q i k=x
 | 0,h=>by cases h
 | n+1,h=>by
  rw [nuT] at h
  split at h
  ·rcases List.mem_append.1 h with h|h
   ·obtain ⟨i,h1,h2⟩:=qg8 h;exact ⟨i,by omega,h2⟩
   ·exact ⟨n,by omega,(List.mem_singleton.1 h).symm⟩
  ·obtain ⟨i,h1,h2⟩:=qg8 h;exact ⟨i,by omega,h2⟩
section
variable {Q:Nat→Nat→Nat} {n:Nat} (h:TOk Q n)
include h
theorem TOk.wi {k:Nat} (hk:k<4):wiT (nuT Q k n)≤23:=q61 (fun x hx=>by
 obtain ⟨i,h1,rfl⟩:=qg8 hx;exact qev 23 _ (by have:=(h.num i k h1 hk).2;omega) Od) _
theorem TOk.le (k:Nat):leT Q k n≤1048576:=Nat.le_trans (qsy k n) h.nle
theorem TOk.n0:numL (ql Q n)=(leT Q 0 n,(varL (leT Q 0 n)).length,0):=qa4 (by have:=h.le 0;omega) _
theorem TOk.a1:vAt (ql Q n) 1=(varL (leT Q 0 n)).length:=by rw [vAt,vAt,List.drop_zero,h.n0,Nat.zero_add]
theorem TOk.n1:numL ((ql Q n).drop (vAt (ql Q n) 1))=(leT Q 1 n,(varL (leT Q 1 n)).length,0):=by
 rw [h.a1,ql,qf];exact qa4 (by have:=h.le 1;omega) _
theorem TOk.a2:vAt (ql Q n) 2=(varL (leT Q 0 n)).length+(varL (leT Q 1 n)).length:=by rw [vAt,h.n1,h.a1]
theorem TOk.n2:numL ((ql Q n).drop (vAt (ql Q n) 2))=(leT Q 2 n,(varL (leT Q 2 n)).length,0):=by
 rw [h.a2,ql,← List.drop_drop,qf,qf];exact qa4 (by have:=h.le 2;omega) _
theorem TOk.a3:vAt (ql Q n) 3=(varL (leT Q 0 n)).length+(varL (leT Q 1 n)).length+(varL (leT Q 2 n)).length:=by rw [vAt,h.n2,h.a2]
theorem TOk.n3:numL ((ql Q n).drop (vAt (ql Q n) 3))=(leT Q 3 n,(varL (leT Q 3 n)).length,0):=by
 rw [h.a3,ql,← List.drop_drop,← List.drop_drop,qf,qf,qf];exact qa4 (by have:=h.le 3;omega) _
theorem TOk.a4:vAt (ql Q n) 4=(varL (leT Q 0 n)).length+(varL (leT Q 1 n)).length+(varL (leT Q 2 n)).length+(varL (leT Q 3 n)).length:=by rw [vAt,h.n3,h.a3]
theorem TOk.numOk {k:Nat} (hk:k<4):(numL ((ql Q n).drop (vAt (ql Q n) k))).2.2=0:=
 match k,hk with
 | 0,_=>by rw [vAt,List.drop_zero,h.n0]
 | 1,_=>by rw [h.n1]
 | 2,_=>by rw [h.n2]
 | 3,_=>by rw [h.n3]
theorem TOk.vNum {k:Nat} (hk:k<4):vNum (ql Q n) k=leT Q k n:=
 match k,hk with
 | 0,_=>by rw [Go.Proofs.YtccmcfpmknpccaaGreatDoor.vNum,vAt,List.drop_zero,h.n0]
 | 1,_=>by rw [Go.Proofs.YtccmcfpmknpccaaGreatDoor.vNum,h.n1]
 | 2,_=>by rw [Go.Proofs.YtccmcfpmknpccaaGreatDoor.vNum,h.n2]
 | 3,_=>by rw [Go.Proofs.YtccmcfpmknpccaaGreatDoor.vNum,h.n3]
theorem TOk.cnt {k:Nat}:cnt (qa0 (stT Q k n)) (leT Q (k+1) n)=leT Q k n:=by
 by_cases h0:n=0
 ·subst h0;rfl
 grind [qy0,qt3,qbn,qjw]
theorem TOk.lvLen {k:Nat}:(lvB Q n k).length=1+(leT Q k n*wiT (nuT Q k n)+7)/8+(if k=0 then 0 else qba (leT Q k n) (leT Q (k-1) n)):=by
 rw [lvB,List.length_cons,zla,qbz];show (leT Q k n*_+7)/8+_+1=_
 by_cases e:k=0
 ·grind
 ·obtain ⟨m,rfl⟩:∃ m,k=m+1:=⟨k-1,by omega⟩
  rw [if_neg e,if_neg e,qeg,Nat.add_sub_cancel,h.cnt,qcd,qbn];unfold qba qam qz qi;omega
theorem TOk.tail {k:Nat}:k≤4→(ql Q n).drop (tvAt (ql Q n) k)=tlB Q n (4-k):=by
 induction k with
 | zero=>
  intro _;rw [tvAt,h.a4,ql,← List.drop_drop,← List.drop_drop,← List.drop_drop,qf,qf,qf,qf]
 | succ k ih=>
  intro hk;have ih:=ih Oo;obtain ⟨j,hj⟩:∃ j,4-k=j+1:=⟨3-k,by omega⟩
  have hj3:3-j=k:=by omega
  rw [hj,tlB,hj3] at ih;have hw:=h.wi (k:=k) Oo;have e1:((ql Q n).getD (tvAt (ql Q n) k) 0).toNat=wiT (nuT Q k n):=by
   have:(ql Q n).getD (tvAt (ql Q n) k) 0=((ql Q n).drop (tvAt (ql Q n) k)).getD 0 0:=by simp
   grind [lvB,qav]
  have e2:tvAt (ql Q n) (k+1)=tvAt (ql Q n) k+(lvB Q n k).length:=by
   rw [tvAt,e1,h.vNum Oo,h.lvLen]
   by_cases e:k=0
   ·grind
   ·rw [if_neg e,if_neg e,h.vNum (k:=k-1) Oo];omega
  rw [e2,← List.drop_drop,ih,qf,show 4-(k+1)=j by omega]
theorem TOk.tw {k:Nat} (hk:k<4):tw (ql Q n) k=wiT (nuT Q k n):=by
 have ih:=h.tail (k:=k) Oo;obtain ⟨j,hj⟩:∃ j,4-k=j+1:=⟨3-k,by omega⟩
 rw [hj,tlB,show 3-j=k by omega] at ih;have:(ql Q n).getD (tvAt (ql Q n) k) 0=((ql Q n).drop (tvAt (ql Q n) k)).getD 0 0:=by simp
 have hw:=h.wi hk;rw [Go.Proofs.YtccmcfpmknpccaaGreatDoor.tw,this,ih,lvB];exact qav Oo
theorem TOk.tEnd {k:Nat} (hk:k<4):tEnd (ql Q n) k=tvAt (ql Q n) k+1+(qc4 (nuT Q k n) (wiT (nuT Q k n))).length:=by
 rw [Go.Proofs.YtccmcfpmknpccaaGreatDoor.tEnd,h.tw hk,h.vNum hk,qbz];rfl
theorem TOk.packed {k:Nat} (hk:k<4):qg (ql Q n) k=qc4 (nuT Q k n) (wiT (nuT Q k n)):=by
 have ih:=h.tail (k:=k) Oo;obtain ⟨j,hj⟩:∃ j,4-k=j+1:=⟨3-k,by omega⟩
 rw [hj,tlB,show 3-j=k by omega] at ih;rw [qg,h.tEnd hk,Nat.add_sub_cancel_left,← List.drop_drop,ih,lvB,List.cons_append,List.drop_succ_cons,List.drop_zero,List.append_assoc,List.take_left]
theorem TOk.bytes {k:Nat} (hk:k<4) (h0:k≠0):qe (ql Q n) k=qac (qa0 (stT Q (k-1) n)) (leT Q k n):=by
 have ih:=h.tail (k:=k) Oo;obtain ⟨j,hj⟩:∃ j,4-k=j+1:=⟨3-k,by omega⟩
 rw [hj,tlB,show 3-j=k by omega] at ih;obtain ⟨m,rfl⟩:∃ m,k=m+1:=⟨k-1,by omega⟩
 have hl:qba (leT Q (m+1) n) (leT Q m n)=(qac (qa0 (stT Q m n)) (leT Q (m+1) n)).length:=by
  rw [qeg,h.cnt,qcd,qbn];rfl
 rw [qe,qgh,if_neg h0,h.vNum hk,h.vNum (k:=m+1-1) Oo,Nat.add_sub_cancel_left,Nat.add_sub_cancel,hl,h.tEnd hk,← List.drop_drop,← List.drop_drop,ih,lvB,List.cons_append,List.drop_succ_cons,List.drop_zero,List.append_assoc,qf,if_neg h0,Nat.add_sub_cancel,List.take_left]
end
theorem qkn (Q:Nat→Nat→Nat) (k:Nat) {e:Nat}:∀ {n:Nat},e<leT Q k n→∃ i,i<n∧frU Q i k=true∧leT Q k i=e
 | 0,h=>by cases h
 | n+1,h=>by
  cases h2:frU Q n k with
  | true=>
   rw [qa3 h2] at h
   by_cases e1:e=leT Q k n
   ·exact ⟨n,by omega,h2,e1.symm⟩
   ·obtain ⟨i,h3,h4,h5⟩:=qkn Q k (e:=e) (n:=n) Oo;exact ⟨i,by omega,h4,h5⟩
  | false=>
   rw [qbd h2] at h;obtain ⟨i,h3,h4,h5⟩:=qkn Q k h;exact ⟨i,by omega,h4,h5⟩
theorem q6p (Q:Nat→Nat→Nat) (k:Nat) {i n:Nat} (h:i<n) (hf:frU Q i (k+1)=true):(stT Q k n).getD (leT Q (k+1) i) false=frU Q i k:=by
 obtain ⟨r,hr⟩:=qmz Q k (a:=i+1) (b:=n) h
 grind [stT,qbn]
theorem qzq {Q:Nat→Nat→Nat} {k n e:Nat} (h:∀ i,i<n→Q i k<18446744073709551616) (he:e<leT Q k n):(nuT Q k n).getD e 0<2 ^ wiT (nuT Q k n):=by
 have h1:=q60 (nuT Q k n) (i:=e) (n:=(nuT Q k n).length) he;have h2:(nuT Q k n).getD e 0∈nuT Q k n:=by
  rw [List.getD_eq_getElem?_getD,zge (show e<(nuT Q k n).length from he)];simp
 obtain ⟨i,h3,h4⟩:=qg8 h2;have h5:=h i h3;rw [h4] at h5;exact Nat.lt_of_lt_of_le (qmc h5) (Nat.pow_le_pow_right Od h1)
section
variable {Q:Nat→Nat→Nat} {n:Nat} (h:TOk Q n)
include h
theorem TOk.big {k:Nat} (hk:k<4):∀ i,i<n→Q i k<18446744073709551616:=fun i hi=>by have:=(h.num i k hi hk).2;omega
theorem TOk.tX {k e:Nat} (hk:k<4) (he:e<leT Q k n):tX (ql Q n) k e=(nuT Q k n).getD e 0:=by
 rw [Go.Proofs.YtccmcfpmknpccaaGreatDoor.tX,h.packed hk,h.tw hk];exact qjh he (qzq (h.big hk) he)
theorem TOk.len {k:Nat} (hk:k<4):tvAt (ql Q n) k<(ql Q n).length∧tvAt (ql Q n) (k+1)≤(ql Q n).length:=by
 have h1:=h.tail (k:=k) Oo;have h2:=h.tail (k:=k+1) Oo;obtain ⟨j,hj⟩:∃ j,4-k=j+1:=⟨3-k,by omega⟩
 rw [hj,tlB] at h1;rw [show 4-(k+1)=j by omega] at h2;have l1:=congrArg List.length h1;rw [zld,zla,show 3-j=k by omega,h.lvLen] at l1;refine ⟨by omega,?_⟩;rw [qgh,h.tEnd hk,qbz];show tvAt (ql Q n) k+1+(leT Q k n*_+7)/8+_≤_
 by_cases e:k=0
 ·grind
 ·rw [if_neg e] at l1 ⊢;rw [h.vNum hk,h.vNum (k:=k-1) Oo];omega
theorem TOk.tE:(tE (ql Q n)).2=0:=by
 have h1:(errF (tcF (ql Q n)) 4).2=0:=qbf fun k hk=>by
  have e0:numE (ql Q n) k 1048576=(0,0):=qg9 (h.numOk hk) (by rw [h.vNum hk];exact h.le k);rw [tcF,if_neg (by simp_all),if_neg];rintro ⟨g1,g2⟩;obtain ⟨m,rfl⟩:∃ m,k=m+1:=⟨k-1,by omega⟩
  rw [Nat.add_sub_cancel,h.vNum hk,h.vNum (k:=m) Oo] at g2;have g3:=qn8 (Q:=Q) m n
  rcases g2 with g2|g2
  ·omega
  ·refine g2 ⟨fun g4=>?_,fun g4=>by omega⟩
   by_cases e:n=0
   ·subst e;rfl
   grind [qd2]
 have h2:(errF (tvF (ql Q n)) 4).2=0:=qbf fun k hk=>by
  obtain ⟨g1,g2⟩:=h.len hk;have g3:=h.wi hk;rw [tvF,if_neg Oo,h.tw hk,if_neg Oo,if_neg Oo]
 have h3:=congrArg List.length (h.tail (k:=4) znr);rw [zld,Nat.sub_self,tlB,List.length_nil] at h3;rw [Go.Proofs.YtccmcfpmknpccaaGreatDoor.tE,if_neg Oo,if_neg Oo,if_neg Oo]
theorem TOk.vec {k:Nat} (hk:k+1<4):vOk (qe (ql Q n) (k+1))=true∧vN (qe (ql Q n) (k+1))=leT Q (k+1) n∧vM (qe (ql Q n) (k+1))=leT Q k n∧
  vD (qe (ql Q n) (k+1))=qa0 (stT Q k n)∧voE (qe (ql Q n) (k+1))=(0,0):=by
 have hl:=h.le (k+1);have hn:leT Q (k+1) n≤67108864:=by omega
 have hd:(qa0 (stT Q k n)).length=upN (leT Q (k+1) n) 8:=by rw [qcd,qbn]
 have hp:¬ PadB (qa0 (stT Q k n)) (leT Q (k+1) n):=by grind [qbn,qn6]
 rw [h.bytes hk Oo,Nat.add_sub_cancel];exact ⟨qj4 hn hd,qci hn,by rw [qet hn,h.cnt],qgk hn hd,q5q hn hd hp⟩
theorem TOk.bit {k e:Nat} (hk:k+1<4) (he:e<leT Q (k+1) n):bitN ((qe (ql Q n) (k+1)).drop 8) e=laT (stT Q k n) e:=by
 obtain ⟨_,h2,_,h4,_⟩:=h.vec hk;have h5:=congrArg (fun d=>bitN d e) h4
 grind [vD,qit,upN,qfy,qbn]
theorem TOk.vcE {k:Nat} (hk:k+1<4):vcE (ql Q n) (k+1)=(0,0):=by
 obtain ⟨h1,h2,h3,h4,h5⟩:=h.vec hk;refine qac9 ?_ (by rw [h5]) fun g=>?_
 ·simp only [tVec,Bool.and_eq_true,decide_eq_true_eq];exact ⟨⟨h1,by rw [h2,h.vNum hk]⟩,by rw [h3,Nat.add_sub_cancel,h.vNum Oo]⟩
 ·rw [h.vNum hk] at g ⊢;rw [h.bit hk Oo,laT,if_pos (by rw [qbn];omega)]
theorem TOk.order {k e:Nat} (hk:k<4) (h0:0<e) (he:e<leT Q k n) (hs:k=0∨bitN ((qe (ql Q n) k).drop 8) (e-1)≠1):(nuT Q k n).getD (e-1) 0<(nuT Q k n).getD e 0:=by
 obtain ⟨i,h1,h2,h3⟩:=qkn Q k he;have hi:0<i:=by
  rcases Nat.eq_zero_or_pos i with e|e
  ·subst e;rw [← h3] at h0;exact (Nat.lt_irrefl 0 h0).elim
  ·exact e
 have g1:=qkv (Q:=Q) k (i:=i) (n:=n) h1;rw [qa3 h2,Nat.add_sub_cancel,h3] at g1;have g2:=qkv (Q:=Q) k (i:=i-1) (n:=n) Oo;rw [Nat.sub_add_cancel hi,h3] at g2;rw [g1,g2];obtain ⟨m,r1,r2,r3⟩:=h.rise i hi h1;have hm:k≤m:=by
  by_cases e0:k=0
  ·omega
  ·have hs:=hs.resolve_left e0;obtain ⟨p,rfl⟩:∃ p,k=p+1:=⟨k-1,by omega⟩
   rw [h.bit hk Oo,laT,qbn,if_neg Oo,Nat.sub_add_cancel h0,← h3,q6p Q p h1 h2] at hs
   grind [qfv]
 grind [qx6]
end
theorem q1i {l:List Nat} {w:Nat} (h:∀ i,i<l.length→l.getD i 0<2 ^ w):unpN (qc4 l w) l.length w=l:=by
 apply List.ext_getElem
 all_goals grind [unpN,qjh]
section
variable {Q:Nat→Nat→Nat} {n:Nat} (h:TOk Q n)
include h
theorem TOk.lvE {k:Nat} (hk:k<4):(lvE (ql Q n) k).2=0:=by
 refine qab5 ?_ ?_ ?_ ?_
 ·refine Classical.byContradiction fun g=>?_;have g1:=(qzv _ _ _).1 g;rw [h.packed hk,h.tw hk,h.vNum hk] at g1;exact qod _ _ g1
 ·rw [h.packed hk,h.tw hk,h.vNum hk,show leT Q k n=(nuT Q k n).length from rfl,q1i fun i hi=>qzq (h.big hk) hi];rfl
 ·by_cases e:k=0
  ·exact .inl e
  ·obtain ⟨m,rfl⟩:∃ m,k=m+1:=⟨k-1,by omega⟩
   exact .inr (by rw [h.vcE hk])
 ·intro e he;rw [h.vNum hk] at he;have hm:(nuT Q k n).getD e 0∈nuT Q k n:=by
   rw [List.getD_eq_getElem?_getD,zge (show e<(nuT Q k n).length from he)];simp
  obtain ⟨i,h1,h2⟩:=qg8 hm;obtain ⟨h3,h4⟩:=h.num i k h1 hk;rw [h2] at h3 h4;rw [qab8]
  ·rw [h.tX hk he];omega
  ·rintro ⟨g1,g2,g3⟩;rw [h.tX hk he,h.tX hk Oo] at g3;have:=h.order hk g1 he g2;omega
theorem TOk.toE:(toE (ql Q n)).2=0:=qac2 h.tE fun _ hk=>h.lvE hk
theorem TOk.fresh {i:Nat} (hi:i<n):frU Q i 3=true:=by
 by_cases h0:i=0
 ·grind [qfw]
 ·obtain ⟨k,h1,h2,h3⟩:=h.rise i Oo hi
  grind [frU]
theorem TOk.all:∀ {i:Nat},i≤n→leT Q 3 i=i
 | 0,_=>rfl
 | i+1,hi=>by rw [qa3 (h.fresh hi),TOk.all Oo]
theorem TOk.up {i:Nat} (hi:i<n):∀ {j:Nat},j<4→tUp (ql Q n) i j=leT Q (3-j) (i+1)-1
 | 0,_=>by rw [tUp,h.all Oo];rfl
 | j+1,hj=>by
  have ih:=TOk.up hi (j:=j) Oo;obtain ⟨k,hk⟩:∃ k,3-j=k+1:=⟨2-j,by omega⟩
  have hv:=qj1 h.toE (3-j) Oo Oo;have hp:=qd2 (Q:=Q) (k+1) (i:=i+1) Oo;have hm:=qa2 (Q:=Q) (k+1) (a:=i+1) (b:=n) hi;rw [tUp,ih,hv.rank _ (by rw [h.vNum Oo,hk];omega),hk];obtain ⟨_,h2,_,h4,_⟩:=h.vec (k:=k) Oo;rw [← qsf _ _ (by rw [h2];omega),h4,qjv Q k hi,show 3-(j+1)=k by omega]
theorem TOk.tNum {i k:Nat} (hi:i<n) (hk:k<4):tNum (ql Q n) i k=Q i k:=by
 have hp:=qd2 (Q:=Q) k (i:=i+1) Oo;have hm:=qa2 (Q:=Q) k (a:=i+1) (b:=n) hi;have hw:=h.wi hk;rw [Go.Proofs.YtccmcfpmknpccaaGreatDoor.tNum,h.up hi Oo,show 3-(3-k)=k by omega,qtd _ _ _ (by rw [h.tw hk];omega)];exact (h.tX hk (e:=leT Q k (i+1)-1) Oo).trans (qkv k hi)
end
def bndT (Q:Nat→Nat→Nat) (k p:Nat):Nat→Nat
 | 0=>0
 | i+1=>if leT Q k (i+1)≤p then i+1 else bndT Q k p i
section
variable {Q:Nat→Nat→Nat}
theorem qc3 (k p:Nat):∀ n,bndT Q k p n≤n
 | 0=>Nat.le_refl _
 | i+1=>by
  rw [bndT]
  split
  ·exact Nat.le_refl _
  ·exact Nat.le_succ_of_le (qc3 k p i)
theorem qbl (k p:Nat):∀ {n i:Nat},i<n→(i<bndT Q k p n↔leT Q k (i+1)≤p)
 | 0,_,h=>absurd h (Nat.not_lt_zero _)
 | n+1,i,h=>by
  rw [bndT]
  split
  ·rename_i g
   have:=qa2 (Q:=Q) k (a:=i+1) (b:=n+1) h;exact ⟨fun _=>by omega,fun _=>h⟩
  ·rename_i g
   by_cases e:i=n
   ·subst e;have:=qc3 (Q:=Q) k p i;exact ⟨fun _=>by omega,fun h=>absurd h g⟩
   ·exact qbl k p Oo
theorem qfo (k:Nat) {p q:Nat} (h:p≤q) (n:Nat):bndT Q k p n≤bndT Q k q n:=by
 rcases Nat.lt_or_ge (bndT Q k q n) (bndT Q k p n) with g|g
 ·have h1:=qc3 (Q:=Q) k p n;have h2:=(qbl (Q:=Q) k p (n:=n) (i:=bndT Q k q n) Oo).1 g;have h3:=(qbl (Q:=Q) k q (n:=n) (i:=bndT Q k q n) Oo).2 Oo;omega
 ·exact g
theorem qnh (k n:Nat):bndT Q k 0 n=0:=by
 rcases Nat.eq_zero_or_pos (bndT Q k 0 n) with g|g
 all_goals grind [qc3,qbl,qd2]
theorem qlk (k:Nat) {p n:Nat} (h:leT Q k n≤p):bndT Q k p n=n:=by
 cases n<;>grind [bndT]
def chT (Q:Nat→Nat→Nat) (n k p:Nat):Nat:=leT Q (k+1) (bndT Q k p n)
theorem qki (k p n:Nat):bndT Q (k+1) (chT Q n k p) n=bndT Q k p n:=by
 have h1:=qc3 (Q:=Q) k p n;have h2:=qc3 (Q:=Q) (k+1) (chT Q n k p) n;refine Nat.le_antisymm ?_ ?_
 ·refine Nat.not_lt.1 fun g=>?_;have h3:=(qbl (Q:=Q) (k+1) (chT Q n k p) (n:=n) (i:=bndT Q k p n) Oo).1 g;have h4:¬ leT Q k (bndT Q k p n+1)≤p:=fun e=>Nat.lt_irrefl _ ((qbl (Q:=Q) k p (n:=n) (i:=bndT Q k p n) Oo).2 e)
  have h5:frU Q (bndT Q k p n) k=true:=by
   cases e:frU Q (bndT Q k p n) k with
   | true=>rfl
   | false=>
    exfalso
    have h6:=qbd (Q:=Q) e;have h7:=(qfv e).1;have h8:=(qbl (Q:=Q) k p (n:=n) (i:=bndT Q k p n-1) Oo).1 Oo
    grind
  grind [qa3,qny,chT]
 ·refine Nat.not_lt.1 fun g=>?_;have h3:¬ leT Q (k+1) (bndT Q (k+1) (chT Q n k p) n+1)≤chT Q n k p:=fun e=>Nat.lt_irrefl _ ((qbl (Q:=Q) (k+1) (chT Q n k p) (n:=n) (i:=bndT Q (k+1) (chT Q n k p) n) Oo).2 e)
  have h4:=qa2 (Q:=Q) (k+1) (a:=bndT Q (k+1) (chT Q n k p) n+1) (b:=bndT Q k p n) g;exact h3 h4
def agB (P:Nat→Int) (k x:Nat):Bool:=decide (P k<0)||decide (P k=(x:Int))
def agF (P:Nat→Int) (Q:Nat→Nat→Nat) (i:Nat):Nat→Nat→Bool
 | _,0=>true
 | k,m+1=>agB P k (Q i k)&&agF P Q i (k+1) m
def maT (P:Nat→Int) (Q:Nat→Nat→Nat) (k a b:Nat):List Nat:=((List.range b).drop a).filter fun i=>agF P Q i k (4-k)
theorem q0f {a b c:Nat} (h1:a≤b) (h2:b≤c):(List.range c).drop a=(List.range b).drop a++(List.range c).drop b:=by
 have e:List.range c=List.range b++(List.range c).drop b:=by
  conv=>lhs;rw [← List.take_append_drop b (List.range c)]
  simp_all
 grind
theorem q8e (P:Nat→Int) (k:Nat) {a b c:Nat} (h1:a≤b) (h2:b≤c):maT P Q k a c=maT P Q k a b++maT P Q k b c:=by
 grind [maT,q0f]
theorem q8f (P:Nat→Int) (k:Nat) {a b:Nat} (h:b≤a):maT P Q k a b=[]:=by
 grind [maT,List.drop_eq_nil_of_le]
theorem qj8 {a b i:Nat}:i∈(List.range b).drop a↔a≤i∧i<b:=by
 rw [List.mem_iff_getElem?]
 constructor
 ·grind
 ·rintro ⟨h1,h2⟩;exact ⟨i-a,by simp_all⟩
theorem qf0 (P:Nat→Int) {k p n:Nat} (hk:k<4):maT P Q k (bndT Q k p n) (bndT Q k (p+1) n)=if agB P k ((nuT Q k n).getD p 0)=true then maT P Q (k+1) (bndT Q k p n) (bndT Q k (p+1) n) else []:=by
 have hn:=qc3 (Q:=Q) k (p+1) n;have key:∀ i∈(List.range (bndT Q k (p+1) n)).drop (bndT Q k p n),agF P Q i k (4-k)=(agB P k ((nuT Q k n).getD p 0)&&agF P Q i (k+1) (4-(k+1))):=by
  intro i hi;obtain ⟨h1,h2⟩:=qj8.1 hi;have h3:=(qbl (Q:=Q) k (p+1) (n:=n) (i:=i) Oo).1 h2;have h4:¬ leT Q k (i+1)≤p:=fun e=>by have:=(qbl (Q:=Q) k p (n:=n) (i:=i) Oo).2 e;omega
  have h5:=qkv (Q:=Q) k (i:=i) (n:=n) Oo;rw [show leT Q k (i+1)-1=p by omega] at h5;rw [h5,show 4-k=(4-(k+1))+1 by omega];rfl
 rw [maT,List.filter_congr key]
 split
 ·rename_i h;rw [h];rfl
 simp_all
end
section
variable {Q:Nat→Nat→Nat}
theorem qn7 (k:Nat) {a:Nat}:∀ {b:Nat},a≤b→leT Q (k+1) a=leT Q (k+1) b→leT Q k a=leT Q k b
 | 0,h,_=>by simp_all
 | b+1,h,he=>by
  by_cases e:a=b+1
  ·rw [e]
  ·have h1:=qa2 (Q:=Q) (k+1) (a:=a) (b:=b) Oo;cases h2:frU Q b (k+1) with
   | true=>rw [qa3 h2] at he;omega
   | false=>
    have h3:frU Q b k=false:=by
     cases h3:frU Q b k with
     | true=>rw [qny h3 (m:=k+1) (Nat.le_succ k)] at h2;cases h2
     | false=>rfl
    rw [qbd h3];exact qn7 k Oo (by rw [he,qbd h2])
theorem q5x {k p n s:Nat} (hs:s<leT Q (k+1) n) (hb:laT (stT Q k n) s=1) (hc:cnt (qa0 (stT Q k n)) s=p):s+1=chT Q n k (p+1):=by
 obtain ⟨i,hi,hf,he⟩:=qkn Q (k+1) hs;have h1:=qa3 (Q:=Q) hf;rw [he] at h1;have h2:=qjv Q k hi;rw [h1,Nat.add_sub_cancel,hc] at h2;have h3:=qd2 (Q:=Q) k (i:=i+1) Oo;have hp:leT Q k (i+1)=p+1:=by omega
 have hib:=(qbl (Q:=Q) k (p+1) (n:=n) (i:=i) hi).2 Oo;have hbn:=qc3 (Q:=Q) k (p+1) n;have hup:=qa2 (Q:=Q) (k+1) (a:=i+1) (b:=bndT Q k (p+1) n) hib;have hun:=qa2 (Q:=Q) (k+1) (a:=bndT Q k (p+1) n) (b:=n) hbn;rw [chT];unfold laT at hb;rw [qbn] at hb
 by_cases e:s+1=leT Q (k+1) n
 ·omega
 ·rw [if_neg e] at hb;have hg:(stT Q k n).getD (s+1) false=true:=by
   grind
  obtain ⟨i2,hi2,hf2,he2⟩:=qkn Q (k+1) (e:=s+1) (n:=n) Oo;have h5:=q6p Q k hi2 hf2;rw [he2,hg] at h5;have hlt:i+1≤i2:=by
   refine Nat.not_lt.1 fun g=>?_;have:=qa2 (Q:=Q) (k+1) (a:=i2) (b:=i) Oo;omega
  have h6:=qn7 (Q:=Q) k hlt Oo;have h7:=qa3 (Q:=Q) h5.symm;have h8:¬ i2<bndT Q k (p+1) n:=fun g=>by grind [qbl]
  have h9:∀ j,j<i2→j<bndT Q k (p+1) n:=fun j hj=>(qbl (Q:=Q) k (p+1) (n:=n) (i:=j) Oo).2 (by
   have:=qa2 (Q:=Q) k (a:=j+1) (b:=i2) hj;omega)
  have h10:bndT Q k (p+1) n=i2:=by
   have:=h9 (i2-1) Oo;omega
  grind
theorem q2m (k n:Nat):chT Q n k 0=0:=by rw [chT,qnh];rfl
theorem qh8 (k n:Nat) {p q:Nat} (h:p≤q):chT Q n k p≤chT Q n k q:=qa2 (k+1) (qfo k h n)
theorem qw8 (k n p:Nat):chT Q n k p≤leT Q (k+1) n:=qa2 (k+1) (qc3 k p n)
theorem qabg {k n e:Nat} (he:e<leT Q (k+1) n):∃ i,i<n∧frU Q i (k+1)=true∧leT Q (k+1) i=e∧leT Q k (i+1)=cnt (qa0 (stT Q k n)) e+1:=by
 obtain ⟨i,hi,hf,h0⟩:=qkn Q (k+1) he;refine ⟨i,hi,hf,h0,?_⟩;have h1:=qa3 (Q:=Q) hf;rw [h0] at h1;have h2:=qjv Q k hi
 grind [qd2]
theorem qadi {k n e p:Nat} (he:e<leT Q (k+1) n):cnt (qa0 (stT Q k n)) e=p↔chT Q n k p≤e∧e<chT Q n k (p+1):=by
 obtain ⟨i,hi,hf,h0,h1⟩:=qabg he;have h2:=qa3 (Q:=Q) hf;have hd:∀ p,(e<chT Q n k p↔cnt (qa0 (stT Q k n)) e<p):=fun p=>by
  have hb:=qbl (Q:=Q) k p hi;rw [chT]
  constructor
  ·intro g;have:i<bndT Q k p n:=by
    refine Nat.not_le.1 fun g2=>?_;have:=qa2 (Q:=Q) (k+1) (a:=bndT Q k p n) (b:=i) g2;omega
   omega
  ·intro g;have:=hb.2 Oo;have:=qa2 (Q:=Q) (k+1) (a:=i+1) (b:=bndT Q k p n) this;omega
 grind
theorem TOk.sib {n k e p:Nat} (h:TOk Q n) (hk:k+1<4) (h1:chT Q n k p≤e) (h2:e+1<chT Q n k (p+1)):(nuT Q (k+1) n).getD e 0<(nuT Q (k+1) n).getD (e+1) 0:=by
 have hle:=qw8 (Q:=Q) k n (p+1);have hc:=(qadi (Q:=Q) (k:=k) (n:=n) (e:=e) (p:=p) Oo).2 ⟨h1,by omega⟩;refine h.order (k:=k+1) (e:=e+1) hk Oo Oo (.inr fun hb=>?_);rw [Nat.add_sub_cancel,h.bit hk Oo] at hb;have:=q5x (Q:=Q) (k:=k) (n:=n) (s:=e) (p:=p) Oo hb hc;omega
theorem TOk.top {n e:Nat} (h:TOk Q n) (h2:e+1<leT Q 0 n):(nuT Q 0 n).getD e 0<(nuT Q 0 n).getD (e+1) 0:=
 h.order (k:=0) (e:=e+1) Od Oo h2 (.inl rfl)
end
theorem q5z {d d':LB}:∀ {n:Nat},(∀ t,t<n→bitN d t=bitN d' t)→cnt d n=cnt d' n
 | 0,_=>rfl
 | n+1,h=>by rw [cnt,cnt,q5z fun t ht=>h t Oo,h n Oo]
theorem q9z {d:LB} {s k:Nat} (h1:cnt d s≤k) (h2:k<cnt d (s+1)):bitN d s=1∧cnt d s=k:=by
 grind [qgm,cnt]
section
variable {Q:Nat→Nat→Nat} {n:Nat} (h:TOk Q n)
include h
theorem TOk.cntD {k s:Nat} (hk:k+1<4) (hs:s≤leT Q (k+1) n):Go.Proofs.YtccmcfpmknpccaaGreatDoor.cnt ((qe (ql Q n) (k+1)).drop 8) s=Go.Proofs.YtccmcfpmknpccaaGreatDoor.cnt (qa0 (stT Q k n)) s:=
 q5z fun t ht=>by rw [h.bit hk Oo,qfy (by rw [qbn];omega)]
theorem TOk.child {k p s:Nat} (hk:k+1<4) (hs:s<leT Q (k+1) n) (h1:Go.Proofs.YtccmcfpmknpccaaGreatDoor.cnt ((qe (ql Q n) (k+1)).drop 8) s≤p) (h2:p<Go.Proofs.YtccmcfpmknpccaaGreatDoor.cnt ((qe (ql Q n) (k+1)).drop 8) (s+1)):s+1=chT Q n k (p+1):=by
 obtain ⟨g1,g2⟩:=q9z h1 h2;rw [h.bit hk hs] at g1;rw [h.cntD hk Oo] at g2;exact q5x hs g1 g2
theorem TOk.ones {k:Nat} (hk:k+1<4):Go.Proofs.YtccmcfpmknpccaaGreatDoor.cnt ((qe (ql Q n) (k+1)).drop 8) (leT Q (k+1) n)=leT Q k n:=by
 rw [h.cntD hk znr];exact h.cnt
theorem TOk.sibs {k p:Nat} (hk:k+1<4) {a:Nat}:∀ {b:Nat},chT Q n k p≤a→a<b→b<chT Q n k (p+1)→(nuT Q (k+1) n).getD a 0<(nuT Q (k+1) n).getD b 0
 | 0,_,hb,_=>absurd hb (Nat.not_lt_zero _)
 | b+1,ha,hb,hc=>by
  have h1:=h.sib (k:=k) (e:=b) (p:=p) hk Oo hc
  by_cases e:a=b
  ·simp_all
  ·have:=TOk.sibs hk (a:=a) (b:=b) ha Oo Oo;omega
theorem TOk.tops {a:Nat}:∀ {b:Nat},a<b→b<leT Q 0 n→(nuT Q 0 n).getD a 0<(nuT Q 0 n).getD b 0
 | 0,hb,_=>absurd hb (Nat.not_lt_zero _)
 | b+1,hb,hc=>by
  have h1:=h.top (e:=b) hc
  by_cases e:a=b
  ·simp_all
  ·have:=TOk.tops (a:=a) (b:=b) Oo Oo;omega
end
section
variable {Q:Nat→Nat→Nat} {P:Nat→Int} {n:Nat}
def lvM (P:Nat→Int) (Q:Nat→Nat→Nat) (n k a b:Nat):List Nat:=maT P Q k (bndT Q k a n) (bndT Q k b n)
theorem qi7 {k a b:Nat} (h:b≤a):lvM P Q n k a b=[]:=q8f P k (qfo k h n)
theorem qme {k a b c:Nat} (h1:a≤b) (h2:b≤c):lvM P Q n k a c=lvM P Q n k a b++lvM P Q n k b c:=q8e P k (qfo k h1 n) (qfo k h2 n)
theorem qqe {k p:Nat} (hk:k+1<4):lvM P Q n k p (p+1)=if agB P k ((nuT Q k n).getD p 0)=true then lvM P Q n (k+1) (chT Q n k p) (chT Q n k (p+1)) else []:=by
 grind [lvM,qf0,qki]
theorem qif {k a:Nat} (hk:k<4):∀ {b:Nat},(∀ e,a≤e→e<b→agB P k ((nuT Q k n).getD e 0)=false)→lvM P Q n k a b=[]
 | 0,_=>qi7 Oo
 | b+1,h=>by
  by_cases hab:a≤b
  ·rw [qme hab (Nat.le_succ b),qif hk fun e h1 h2=>h e h1 Oo,List.nil_append,lvM,qf0 P hk,h b hab (Nat.lt_succ_self b)];rfl
  ·exact qi7 Oo
theorem qs5 {k a b e x:Nat} (hk:k<4) (hx:P k=(x:Int)) (hr:∀ i j,a≤i→i<j→j<b→(nuT Q k n).getD i 0<(nuT Q k n).getD j 0) (h1:a≤e) (h2:e≤b) (hlt:∀ i,a≤i→i<e→(nuT Q k n).getD i 0<x) (hge:e<b→x≤(nuT Q k n).getD e 0) :
  lvM P Q n k a b=if e<b∧(nuT Q k n).getD e 0=x then lvM P Q n k e (e+1) else []:=by
 have ag:∀ i,(nuT Q k n).getD i 0≠x→agB P k ((nuT Q k n).getD i 0)=false:=(by grind [agB])
 split
 ·rename_i h
  rw [qme (b:=e) h1 h2,qif hk fun i g1 g2=>ag i (by have:=hlt i g1 g2;omega),List.nil_append,qme (b:=e+1) (Nat.le_succ e) h.1,qif (a:=e+1) hk fun i g1 g2=>ag i (by have:=hr e i h1 Oo g2;omega),List.append_nil]
 ·rename_i h
  refine qif hk fun i g1 g2=>ag i fun hi=>?_
  rcases Nat.lt_or_ge i e with g|g
  ·grind
  ·have h3:x≤(nuT Q k n).getD e 0:=(by omega)
   rcases Nat.eq_or_lt_of_le g with g|g
   all_goals grind
theorem TOk.bnd3 (h:TOk Q n) {p:Nat} (hp:p≤n):bndT Q 3 p n=p:=by
 have h1:=qc3 (Q:=Q) 3 p n;refine Nat.le_antisymm ?_ ?_
 ·refine Nat.not_lt.1 fun g=>?_;have:=(qbl (Q:=Q) 3 p (n:=n) (i:=p) Oo).1 g;rw [h.all Oo] at this;omega
 ·refine Nat.not_lt.1 fun g=>?_;have:=(qbl (Q:=Q) 3 p (n:=n) (i:=bndT Q 3 p n) Oo).2 (by rw [h.all Oo];exact g);omega
theorem TOk.leaf (h:TOk Q n) {e:Nat} (he:e<n):lvM P Q n 3 e (e+1)=if agB P 3 ((nuT Q 3 n).getD e 0)=true then [e] else []:=by
 rw [lvM,qf0 P Od,h.bnd3 Oo,h.bnd3 Oo]
 split
 ·rw [maT,List.range_succ,List.drop_append_of_le_length Js,List.drop_eq_nil_of_le Js,List.nil_append];rfl
 ·rfl
theorem TOk.lvM_all (_h:TOk Q n):lvM P Q n 0 0 (leT Q 0 n)=maT P Q 0 0 n:=by
 grind [lvM,qnh,qlk]
end
def bsr (p:Nat→Bool):Nat→Nat→Nat→Nat
 | 0,a,_=>a
 | f+1,a,b=>if a<b then (if p ((a+b)/2)=true then bsr p f a ((a+b)/2) else bsr p f ((a+b)/2+1) b) else a
theorem qkj {p:Nat→Bool}:∀ {f a b:Nat},a≤b→a≤bsr p f a b∧bsr p f a b≤b
 | 0,a,b,h=>⟨Nat.le_refl _,h⟩
 | f+1,a,b,h=>by
  rw [bsr]
  split
  ·split
   ·have:=qkj (p:=p) (f:=f) (a:=a) (b:=(a+b)/2) Oo;omega
   ·have:=qkj (p:=p) (f:=f) (a:=(a+b)/2+1) (b:=b) Oo;omega
  ·omega
theorem qh6 {p:Nat→Bool} {n:Nat} (hp:∀ i j,i≤j→j<n→p i=true→p j=true):∀ {f a b:Nat},a≤b→b≤n→b-a≤f→(∀ i,i<a→p i=false)→(∀ i,b≤i→i<n→p i=true)→
  (∀ i,i<bsr p f a b→p i=false)∧(∀ i,bsr p f a b≤i→i<n→p i=true)
 | 0,a,b,h,_,hf,h1,h2=>by
  obtain rfl:a=b:=by omega
  exact ⟨h1,h2⟩
 | f+1,a,b,h,hn,hf,h1,h2=>by
  rw [bsr]
  split
  ·rename_i hab
   split
   ·rename_i hm
    exact qh6 hp Oo Oo Oo h1 (by grind)
   ·rename_i hm
    refine qh6 hp Oo hn Oo (fun i hi=>?_) h2
    grind
  grind
abbrev WS:=(Nat→Nat) × (Nat→Nat)
abbrev WR:=List (Nat × (Nat→Nat)) × WS
def updN (f:Nat→Nat) (k v:Nat):Nat→Nat:=fun j=>if j=k then v else f j
def goL (f:Nat→WS→WR):Nat→Nat→WS→WR
 | 0,_,s=>([],s)
 | m+1,i,s=>((f i s).1++(goL f m (i+1) (f i s).2).1,(goL f m (i+1) (f i s).2).2)
structure LvD where
 N:Nat→Nat
 nu:Nat→Nat→Nat
 ch:Nat→Nat→Nat × Nat
def LvD.sr (T:LvD) (k lo hi:Nat) (x:Int):Nat:=lo+bsr (fun i=>decide (x≤(T.nu k (lo+i):Int))) (hi-lo) 0 (hi-lo)
def LvD.win (T:LvD) (P:Nat→Int) (k lo hi:Nat):Nat × Nat:=
 if P k<0 then (lo,hi) else if T.sr k lo hi (P k)<hi∧(T.nu k (T.sr k lo hi (P k)):Int)=P k then (T.sr k lo hi (P k),T.sr k lo hi (P k)+1) else (T.sr k lo hi (P k),T.sr k lo hi (P k))
def lvS (T:LvD) (P:Nat→Int) (f:Nat→WS→WR) (k lo hi:Nat) (s:WS):WR:=
 if min hi (T.N k)≤max lo (s.1 k) then ([],s) else
 goL (fun i s=>f i (s.1,updN s.2 k (T.nu k i))) ((T.win P k (max lo (s.1 k)) (min hi (T.N k))).2-(T.win P k (max lo (s.1 k)) (min hi (T.N k))).1) (T.win P k (max lo (s.1 k)) (min hi (T.N k))).1 (updN s.1 k (min hi (T.N k)),s.2)
def lvG (T:LvD) (P:Nat→Int):Nat→Nat→Nat→Nat→WS→WR
 | 0,k,lo,hi,s=>lvS T P (fun i s=>([(i,s.2)],s)) k lo hi s
 | d+1,k,lo,hi,s=>lvS T P (fun i s=>lvG T P d (k+1) (T.ch k i).1 (T.ch k i).2 s) k lo hi s
theorem LvD.sr_le (T:LvD) (k:Nat) {lo hi:Nat} (x:Int) (h:lo≤hi):lo≤T.sr k lo hi x∧T.sr k lo hi x≤hi:=by
 grind [qkj,LvD.sr]
theorem LvD.win_le (T:LvD) (P:Nat→Int) (k:Nat) {lo hi:Nat} (h:lo≤hi):lo≤(T.win P k lo hi).1∧(T.win P k lo hi).1≤(T.win P k lo hi).2∧(T.win P k lo hi).2≤hi:=by
 have:=T.sr_le k (P k) h
 grind [LvD.win]
theorem LvD.sr_spec (T:LvD) (k:Nat) {lo hi:Nat} (x:Int) (h:lo≤hi) (hr:∀ i j,lo≤i→i<j→j<hi→T.nu k i<T.nu k j) :
  (∀ i,lo≤i→i<T.sr k lo hi x→(T.nu k i:Int)<x)∧(T.sr k lo hi x<hi→x≤(T.nu k (T.sr k lo hi x):Int)):=by
 have hs:=qh6 (p:=fun i=>decide (x≤(T.nu k (lo+i):Int))) (n:=hi-lo) (fun i j hij hj hi'=>by
  have hi':=of_decide_eq_true hi';refine decide_eq_true ?_
  by_cases e:i=j
  ·simp_all
  ·have:=hr (lo+i) (lo+j) Oo Oo Oo;omega) (f:=hi-lo) (a:=0) (b:=hi-lo) Oo Oo Oo Oo Oo
 unfold LvD.sr;refine ⟨fun i h1 h2=>?_,fun h1=>?_⟩
 ·have:=of_decide_eq_false (hs.1 (i-lo) Oo)
  simp_all
 grind
section
variable {Q:Nat→Nat→Nat} {n:Nat}
def dT (Q:Nat→Nat→Nat) (n k a:Nat):Nat→Nat
 | 0=>a
 | j+1=>chT Q n (k+j) (dT Q n k a j)
theorem qpv (k:Nat) {a b:Nat} (h:a≤b):∀ j,dT Q n k a j≤dT Q n k b j
 | 0=>h
 | j+1=>qh8 _ _ (qpv k h j)
theorem qlp (k a:Nat):∀ j,dT Q n (k+1) (chT Q n k a) j=dT Q n k a (j+1)
 | 0=>rfl
 | j+1=>by rw [dT,qlp k a j,dT,show k+1+j=k+(j+1) by omega,dT,dT]
theorem qyc {P:Nat→Int} {k lo hi:Nat} {f:Nat→WS→WR} {Inv:Nat→WS→Prop} (h:∀ i s,lo≤i→i<hi→Inv i s→(f i s).1.map (·.1)=lvM P Q n k i (i+1)∧Inv (i+1) (f i s).2) :
  ∀ (m i:Nat) (s:WS),lo≤i→i+m≤hi→Inv i s→(goL f m i s).1.map (·.1)=lvM P Q n k i (i+m)∧Inv (i+m) (goL f m i s).2
 | 0,i,s,_,_,hi'=>⟨(qi7 znr).symm,hi'⟩
 | m+1,i,s,h1,h2,hi'=>by
  obtain ⟨g1,g2⟩:=h i s h1 Oo hi';obtain ⟨g3,g4⟩:=qyc h m (i+1) _ Oo Oo g2
  grind [goL,qme]
structure CanD (T:LvD) (Q:Nat→Nat→Nat) (n:Nat):Prop where
 N:∀ k,k<4→T.N k=leT Q k n
 nu:∀ k e,k<4→e<leT Q k n→T.nu k e=(nuT Q k n).getD e 0
 ch:∀ k i,k+1<4→i<leT Q k n→T.ch k i=(chT Q n k i,chT Q n k (i+1))
theorem qzi (_:TOk Q n) {T:LvD} (hT:CanD T Q n) {P:Nat→Int} {k a b:Nat} {s:WS} {f:Nat→WS→WR} (hk:k<4) (hab:a≤b) (hb:b≤leT Q k n) (hr:∀ i j,a≤i→i<j→j<b→(nuT Q k n).getD i 0<(nuT Q k n).getD j 0)
  (hp:∀ j,k+j<4→s.1 (k+j)≤dT Q n k a j)
  (hf:∀ i s,a≤i→i<b→agB P k ((nuT Q k n).getD i 0)=true→(∀ j,k+(j+1)<4→s.1 (k+(j+1))≤dT Q n k i (j+1))→(f i s).1.map (·.1)=lvM P Q n k i (i+1)∧(f i s).2.1 k=s.1 k∧∀ j,k+(j+1)<4→(f i s).2.1 (k+(j+1))≤dT Q n k (i+1) (j+1)) :
  (lvS T P f k a b s).1.map (·.1)=lvM P Q n k a b∧∀ j,k+j<4→(lvS T P f k a b s).2.1 (k+j)≤dT Q n k b j:=by
 have hp0:s.1 k≤a:=hp 0 hk;rw [lvS,hT.N k hk,Nat.max_eq_left hp0,Nat.min_eq_left hb]
 split
 ·grind [qi7]
 obtain ⟨w1,w2,w3⟩:=T.win_le P k hab;have hnu:∀ e,e<b→T.nu k e=(nuT Q k n).getD e 0:=fun e he=>hT.nu k e hk Oo
 have hwin:lvM P Q n k a b=lvM P Q n k (T.win P k a b).1 (T.win P k a b).2∧∀ i,(T.win P k a b).1≤i→i<(T.win P k a b).2→agB P k ((nuT Q k n).getD i 0)=true:=by
  by_cases hneg:P k<0
  ·grind [LvD.win,agB]
  ·obtain ⟨s1,s2⟩:=T.sr_le k (P k) hab;obtain ⟨s3,s4⟩:=T.sr_spec k (P k) hab (by grind);obtain ⟨x,hx⟩:∃ x:Nat,P k=(x:Int):=⟨(P k).toNat,by omega⟩
   have hfd:=qs5 (P:=P) (n:=n) hk hx hr s1 s2 (by grind) (by grind)
   grind [LvD.win,agB,qi7]
 obtain ⟨hw1,hw2⟩:=hwin;obtain ⟨u,eu⟩:∃ u,u=T.win P k a b:=⟨_,rfl⟩
 rw [← eu] at w1 w2 w3 hw1 hw2 ⊢;have hg:=qyc (Q:=Q) (n:=n) (P:=P) (k:=k) (lo:=u.1) (hi:=u.2) (f:=fun i s=>f i (s.1,updN s.2 k (T.nu k i))) (Inv:=fun i s=>s.1 k=b∧∀ j,k+(j+1)<4→s.1 (k+(j+1))≤dT Q n k i (j+1))
  (by grind) (u.2-u.1) u.1 (updN s.1 k b,s.2) Oo Oo ⟨by grind [updN],fun j hj=>by
    show updN s.1 k b (k+(j+1))≤_;rw [updN,if_neg Oo];exact Nat.le_trans (by grind) (qpv k w1 (j+1))⟩
 rw [show u.1+(u.2-u.1)=u.2 by omega] at hg;refine ⟨by rw [hg.1,hw1],fun j hj=>?_⟩;cases j with
 | zero=>rw [Nat.add_zero,hg.2.1];exact Nat.le_refl b
 | succ j=>exact Nat.le_trans (hg.2.2 j hj) (qpv k w3 (j+1))
theorem qs6 {T:LvD} {P:Nat→Int} {k a b m:Nat} {s:WS} {f:Nat→WS→WR} (hm:m≠k) (hf:∀ i s,(f i s).2.1 m=s.1 m):(lvS T P f k a b s).2.1 m=s.1 m:=by
 have key:∀ c i (s:WS),(goL (fun i s=>f i (s.1,updN s.2 k (T.nu k i))) c i s).2.1 m=s.1 m:=by
  intro c
  induction c with
  | zero=>intro i s;rfl
  | succ c ih=>grind [goL]
 grind [lvS,updN]
theorem qs4 {T:LvD} {P:Nat→Int} {m:Nat}:∀ {d k a b:Nat} {s:WS},m<k→(lvG T P d k a b s).2.1 m=s.1 m
 | 0,k,a,b,s,h=>qs6 Oo fun _ _=>rfl
 | d+1,k,a,b,s,h=>qs6 Oo fun i s=>qs4 (d:=d) Oo
theorem qzg (h:TOk Q n) {T:LvD} (hT:CanD T Q n) {P:Nat→Int}:∀ {d k a b:Nat} {s:WS},k+d=3→a≤b→b≤leT Q k n→(∀ i j,a≤i→i<j→j<b→(nuT Q k n).getD i 0<(nuT Q k n).getD j 0)→
  (∀ j,k+j<4→s.1 (k+j)≤dT Q n k a j)→(lvG T P d k a b s).1.map (·.1)=lvM P Q n k a b∧∀ j,k+j<4→(lvG T P d k a b s).2.1 (k+j)≤dT Q n k b j
 | 0,k,a,b,s,hkd,hab,hb,hr,hp=>by
  obtain rfl:k=3:=by omega
  have hn:leT Q 3 n=n:=h.all Oo;refine qzi h hT Oo hab hb hr hp fun i s h1 h2 hag _=>⟨?_,rfl,Oo⟩
  rw [h.leaf Oo,if_pos hag];rfl
 | d+1,k,a,b,s,hkd,hab,hb,hr,hp=>by
  refine qzi h hT Oo hab hb hr hp fun i s h1 h2 hag hj=>?_;have hch:=hT.ch k i Oo Oo;have ih:=qzg h hT (P:=P) (d:=d) (k:=k+1) (a:=chT Q n k i) (b:=chT Q n k (i+1)) (s:=s) Oo (qh8 k n (Nat.le_succ i)) (qw8 k n _) (fun x y g1 g2 g3=>h.sibs Oo g1 g2 g3)
   (fun j hj2=>by rw [qlp,show k+1+j=k+(j+1) by omega];exact hj j Oo)
  rw [hch];refine ⟨by rw [ih.1,qqe Oo,if_pos hag],qs4 Oo,fun j hj2=>?_⟩;have:=ih.2 j Oo;rw [qlp,show k+1+j=k+(j+1) by omega] at this;exact this
theorem q8d (h:TOk Q n) {T:LvD} (hT:CanD T Q n) {P:Nat→Int} {q:Nat→Nat}:(lvG T P 3 0 0 (leT Q 0 n) (fun _=>0,q)).1.map (·.1)=maT P Q 0 0 n:=by
 rw [← h.lvM_all];exact (qzg h hT (d:=3) (k:=0) (a:=0) (b:=leT Q 0 n) (s:=(fun _=>0,q)) rfl Oo Oo (fun i j _ h2 h3=>h.tops h2 h3) (fun j hj=>Nat.zero_le _)).1
end
def seB (B:LB) (x:Nat):Nat:=if x<vM B then bsr (fun i=>decide (x<qff B (i+1))) (vN B-1) 0 (vN B-1)+1 else 0
def chB (l:LB) (k i:Nat):Nat × Nat:=
 if tVec l (k+1)=true then ((if 0<i then seB (qe l (k+1)) (i-1) else 0),max (if 0<i then seB (qe l (k+1)) (i-1) else 0) (seB (qe l (k+1)) i)) else (0,0)
def treD (l:LB):LvD:=⟨vNum l,fun k e=>numP (qg l k) (tw l k) e,chB l⟩
theorem q0r {B:LB} (x:Nat) (h:vM B≤vN B):seB B x≤vN B:=by
 grind [seB,qkj]
theorem qsa {l:LB} {k i:Nat} (h:∀ k,vNum l k≤1048576∨4≤k) (hk:k+1<4) (hv:tVec l (k+1)=true→vM (qe l (k+1))≤vN (qe l (k+1))):(chB l k i).1≤1048576∧(chB l k i).2≤1048576:=by
 grind [chB,tVec,q0r]
section
variable {Q:Nat→Nat→Nat} {n:Nat} (h:TOk Q n)
include h
theorem TOk.seB {k p:Nat} (hk:k+1<4) (hp:p<leT Q k n):Go.Proofs.YtccmcfpmknpccaaGreatDoor.seB (qe (ql Q n) (k+1)) p=chT Q n k (p+1):=by
 obtain ⟨h1,h2,h3,h4,h5⟩:=h.vec hk;have hl:=qj1 h.toE (k+1) Oo Oo;have ho:=h.ones hk;rw [Go.Proofs.YtccmcfpmknpccaaGreatDoor.seB,h3,if_pos hp,h2];have hpos:0<leT Q (k+1) n:=by
  refine Nat.pos_of_ne_zero fun e=>?_;rw [e] at ho;have:leT Q k n=0:=ho.symm;omega
 obtain ⟨N,eN⟩:∃ N,N=leT Q (k+1) n-1:=⟨_,rfl⟩
 have hrk:∀ i,i≤N+1→qff (qe (ql Q n) (k+1)) i=Go.Proofs.YtccmcfpmknpccaaGreatDoor.cnt ((qe (ql Q n) (k+1)).drop 8) i:=fun i hi=>hl.rank i (by rw [h.vNum hk];omega)
 rw [← eN];have hb:=qkj (p:=fun i=>decide (p<qff (qe (ql Q n) (k+1)) (i+1))) (f:=N) (a:=0) (b:=N) (Nat.zero_le _);have hs:=qh6 (p:=fun i=>decide (p<qff (qe (ql Q n) (k+1)) (i+1))) (n:=N) (by grind [Nat.lt_of_lt_of_le,qei]) (f:=N) (a:=0) (b:=N) Oo Oo Oo Oo Oo;obtain ⟨s,es⟩:∃ s,s=bsr (fun i=>decide (p<qff (qe (ql Q n) (k+1)) (i+1))) N 0 N:=⟨_,rfl⟩
 rw [← es] at hb hs ⊢;refine h.child hk Oo ?_ ?_
 ·cases s with
  | zero=>exact Nat.zero_le _
  | succ s=>
   grind
 grind
theorem TOk.canD:CanD (treD (ql Q n)) Q n:=by
 refine ⟨fun k hk=>h.vNum hk,fun k e hk he=>?_,fun k i hk hi=>?_⟩
 ·show numP _ _ _=_;rw [qtd _ _ _ (by have:=h.wi hk;rw [h.tw hk];omega)];exact h.tX hk he
 ·have hl:=qj1 h.toE (k+1) Oo Oo;have e0:(if 0<i then Go.Proofs.YtccmcfpmknpccaaGreatDoor.seB (qe (ql Q n) (k+1)) (i-1) else 0)=chT Q n k i:=by
   split
   ·rw [h.seB hk Oo,show i-1+1=i by omega]
   grind [q2m]
  show chB _ k i=_;rw [chB,if_pos hl.tvec,e0,h.seB hk hi,Nat.max_eq_right (qh8 k n (Nat.le_succ i))]
theorem TOk.mtch {P:Nat→Int} {q:Nat→Nat}:(lvG (treD (ql Q n)) P 3 0 0 (Go.Proofs.YtccmcfpmknpccaaGreatDoor.vNum (ql Q n) 0) (fun _=>0,q)).1.map (·.1)=maT P Q 0 0 n:=by
 rw [h.vNum Od];exact q8d h h.canD
end
set_option maxRecDepth 100000
theorem qr5 (p:Nat→Bool) (f a:Nat):bsr p f a a=a:=by
 cases f<;>grind [bsr]
theorem qqv (l:LB) (A:oA) (c b k:Nat) (w:World) (hS:SlAt encB 1 w A l) (hc:l.length≤c) (hv:vOk l=true) (hb:w.heap[b]?=some (vecO 381 (.slice A l.length c) (vN l) (vM l))) (h1:1≤vN l) (hn:vN l≤67108864) :
  Gv Tryz.prog 280 [pp b,ii k,.func (.func 224) #[pp b] #[]] w fun r w'=>r=ii (bsr (fun i=>decide (k<qff l (i+1))) (vN l-1) 0 (vN l-1):Nat)∧Ext w w':=by
 obtain ⟨p,ep⟩:∃ p:Nat→Bool,p=fun i=>decide (k<qff l (i+1)):=⟨_,rfl⟩
 rw [← ep];refine ze Tryz.func280 Tryz.ntmps280 ?_;refine DrawV.free Jk Jk (zw ?_);(iterate 3 (refine zd ?_));refine zf ?_ (by intro wd hd;(conv=>whnf);refine LoadV.own (Ext.get (Ext.trans (Ext.drew xr) hd) hb) rfl ?_;(conv=>whnf);exact ⟨xr,rfl⟩);(iterate 3 (refine zd ?_));intro w1 he1;have he1:=(Ext.refl w).drew.trans he1;(conv=>whnf);refine qm (fun s:Nat × Nat=>[(1,ii k),(2,.func (.func 224) #[pp b] #[]),(7,ii s.1),(8,ii s.2)])
  (fun s w'=>s.1≤s.2∧s.2≤vN l-1∧(∃ f,s.2-s.1≤f∧bsr p f s.1 s.2=bsr p (vN l-1) 0 (vN l-1))∧Ext w w') (fun s=>s.2-s.1) (0,vN l-1) ⟨rfl,rfl,rfl,congrArg (Value.int .i64) (by show ((vN l:Nat):Int)-1=((vN l-1:Nat):Int);omega),trivial⟩ (by grind) ?_
 rintro ⟨x,y⟩ w2 ρ' ⟨g1,g2,⟨f,hf,hbs⟩,he⟩;dsimp only at g1 g2 hf hbs ⊢;(conv=>whnf);refine zC (fun _=>zu ?_) (fun _=>zu ?_)
 ·obtain ⟨h,eh⟩:∃ h,h=(x+y)/2:=⟨_,rfl⟩
  obtain ⟨f',rfl⟩:∃ f',f=f'+1:=⟨f-1,by omega⟩
  rw [bsr,if_pos Oo,← eh] at hbs;rw [show ((x:Int)+(y:Int))/2=((h:Nat):Int) by omega,show ((h:Nat):Int)+1=((h+1:Nat):Int) by omega];refine zcv (qtm l A c b (h+1) w2 (hS.ext he) hc hv (he.get hb) Oo) ?_;rintro r w3 ⟨rfl,he3⟩;have he:=he.trans he3;cases hph:p h
  ·rw [if_neg (by rw [hph];decide)] at hbs;rw [ep] at hph;have hph:=of_decide_eq_false hph;refine zu ?_;refine ⟨(h+1,y),⟨rfl,rfl,rfl,rfl,trivial⟩,(by grind),by omega⟩
  ·rw [if_pos hph] at hbs;rw [ep] at hph;have hph:=of_decide_eq_true hph;refine zu ?_;refine ⟨(x,h),⟨rfl,rfl,rfl,rfl,trivial⟩,(by grind),by omega⟩
 grind [qr5]
theorem qfh (l:LB) (A:oA) (c b k:Nat) (w:World) (hS:SlAt encB 1 w A l) (hc:l.length≤c) (hv:vOk l=true) (hb:w.heap[b]?=some (vecO 381 (.slice A l.length c) (vN l) (vM l))) (hm:vM l≤vN l) (hn:vN l≤67108864) :
  Gv Tryz.prog 210 [pp b,ii k] w fun r w'=>r=ii ((seB l k:Int)-1)∧Ext w w':=by
 refine ze Tryz.func210 Tryz.ntmps210 ?_;refine zv ?_;refine LoadV.own hb rfl (zw ?_);refine zt ?_;refine zC (fun _=>zw ?_) (fun _=>zw ?_)
 ·grind [seB,Ext.refl]
 ·refine zcv (qqv l A c b k w hS hc hv hb Oo hn) ?_;rintro r w1 ⟨rfl,he1⟩;conv=>whnf
  grind [seB]
theorem qo3 (g:FuncId) (c1 c2 c3:Value) (n:Nat) (p:Nat→Bool) (w:World) (hn:n≤4194304)
  (hg:∀ i w',i<n→Ext w w'→Gv Tryz.prog g [ii i,c1,c2,c3] w' fun r w''=>r=.bool (p i)∧Ext w' w'') :
  Gv Tryz.prog 208 [ii n,.func (.func g) #[] #[c1,c2,c3]] w fun r w'=>r=ii (bsr p n 0 n:Nat)∧Ext w w':=by
 refine ze Tryz.func208 Tryz.ntmps208 ?_;refine qm (fun s:Nat × Nat=>[(1,.func (.func g) #[] #[c1,c2,c3]),(5,ii s.1),(6,ii s.2)])
  (fun s w'=>s.1≤s.2∧s.2≤n∧(∃ f,s.2-s.1≤f∧bsr p f s.1 s.2=bsr p n 0 n)∧Ext w w') (fun s=>s.2-s.1) (0,n) ⟨rfl,rfl,rfl,trivial⟩ (by grind [Ext.refl]) ?_
 rintro ⟨a,b⟩ w1 ρ' ⟨h1,h2,⟨f,hf,hb⟩,he⟩;dsimp only at h1 h2 hf hb ⊢;(conv=>whnf);refine zC (fun _=>zu ?_) (fun _=>zu ?_)
 ·obtain ⟨h,eh⟩:∃ h,h=(a+b)/2:=⟨_,rfl⟩
  obtain ⟨f',rfl⟩:∃ f',f=f'+1:=⟨f-1,by omega⟩
  rw [bsr,if_pos Oo,← eh] at hb;rw [← Int.natCast_add];refine V.Wit.shrN 1 rfl Od ?_;rw [Nat.pow_one,← eh];refine zu ?_;refine zcv (hg h w1 Oo he) ?_;rintro r w2 ⟨rfl,he2⟩;have he:=he.trans he2;cases hph:p h
  ·rw [if_neg (by rw [hph];decide)] at hb;refine zu ?_;refine ⟨(h+1,b),⟨rfl,rfl,rfl,trivial⟩,(by grind),by omega⟩
  ·rw [if_pos hph] at hb;refine zu ?_;refine ⟨(a,h),⟨rfl,rfl,rfl,trivial⟩,(by grind),by omega⟩
 grind [qr5]
theorem qpa (b off i lo wd cp:Nat) (x:Int) (b4 b5 b7:Nat) (P:oA) (p:LB) (w:World) (h1:w.cell? ⟨b,off+1,none⟩=some (ii wd)) (h5:w.cell? ⟨b,off+5,none⟩=some (.slice P p.length cp)) (hP:SlAt encB 1 w P p) (hw:wd≤23) (hi:lo+i≤4194304)
  (g4:w.cell? ⟨b4,0,none⟩=some (.pointer (some ⟨b,off,none⟩))) (g5:w.cell? ⟨b5,0,none⟩=some (ii lo)) (g7:w.cell? ⟨b7,0,none⟩=some (ii x)) :
  Gv Tryz.prog 209 [ii i,pp b4,pp b5,pp b7] w fun r w'=>r=.bool (decide (x≤(numP p wd (lo+i):Int)))∧Ext w w':=by
 refine ze Tryz.func209 Tryz.ntmps209 ?_;refine DrawV.free Jk Jk (zw ?_);refine zf ?_ (by intro wd hd;(conv=>whnf);refine LoadV.of (Ext.cell (Ext.trans (Ext.drew xr) hd) g4) ?_;(conv=>whnf);exact ⟨xr,rfl⟩);refine zf ?_ (by intro wd hd;(conv=>whnf);refine LoadV.of (Ext.cell (Ext.trans (Ext.drew xr) hd) g5) ?_;(conv=>whnf);exact ⟨xr,rfl⟩);refine zd ?_;refine zd ?_;apply zsd (ii (numP p wd (lo+i)))
 ·intro wd' hd;(conv=>whnf);rw [show ((lo:Int)+(i:Int))=((lo+i:Nat):Int) by omega];refine zcv (qbu b off (lo+i) wd cp P p wd' (((Ext.refl w).drew.trans hd).cell h1) (((Ext.refl w).drew.trans hd).cell h5) (hP.ext ((Ext.refl w).drew.trans hd)) hw hi) ?_
  simp_all
 (conv=>whnf);refine zf ?_ (by intro wd hd;(conv=>whnf);refine LoadV.of (Ext.cell (Ext.trans (Ext.drew xr) hd) g7) ?_;(conv=>whnf);exact ⟨xr,rfl⟩);refine zd ?_;refine zd ?_;intro w2 he2;(conv=>whnf);exact ⟨rfl,(Ext.refl w).drew.trans he2⟩
theorem qfj (b off lo hi wd cp:Nat) (x:Int) (P:oA) (p:LB) (w:World) (h1:w.cell? ⟨b,off+1,none⟩=some (ii wd)) (h5:w.cell? ⟨b,off+5,none⟩=some (.slice P p.length cp)) (hP:SlAt encB 1 w P p) (hw:wd≤23) (hlo:lo≤hi) (hhi:hi≤4194304) :
  Gv Tryz.prog 128 [.pointer (some ⟨b,off,none⟩),ii lo,ii hi,ii x] w fun r w'=>r=ii (lo+bsr (fun i=>decide (x≤(numP p wd (lo+i):Int))) (hi-lo) 0 (hi-lo):Nat)∧Ext w w':=by
 obtain ⟨q,eq⟩:∃ q:Nat→Bool,q=fun i=>decide (x≤(numP p wd (lo+i):Int)):=⟨_,rfl⟩
 rw [← eq];have hq:=qkj (p:=q) (f:=hi-lo) (a:=0) (b:=hi-lo) (Nat.zero_le _);refine ze Tryz.func128 Tryz.ntmps128 ?_;refine znm (Mem.nil w) fun b4 w1 hm=>zw ?_;refine znm hm fun b5 w2 hm=>zw ?_;refine znm hm fun b7 w3 hm=>zw ?_;have c7:w3.cell? ⟨b7,0,none⟩=some (ii x):=by rw [qa (hm.get mh)];rfl
 have c5:w3.cell? ⟨b5,0,none⟩=some (ii lo):=by rw [qa (hm.get (zmc mh))];rfl
 have c4:w3.cell? ⟨b4,0,none⟩=some (.pointer (some ⟨b,off,none⟩)):=by rw [qa (hm.get (zmc (zmc mh)))];rfl
 refine DrawV.free Jk Jk (zw ?_);refine zf ?_ (by intro wd hd;(conv=>whnf);refine LoadV.of (Ext.cell (Ext.trans (Ext.drew xr) hd) c5) ?_;(conv=>whnf);exact ⟨xr,rfl⟩);refine zd ?_;refine zf ?_ (by intro wd hd;(conv=>whnf);refine LoadV.of (Ext.cell (Ext.trans (Ext.drew xr) hd) c5) ?_;(conv=>whnf);exact ⟨xr,rfl⟩);refine zd ?_;refine zd ?_;apply zsd (ii (bsr q (hi-lo) 0 (hi-lo):Nat))
 ·intro wd' hd;have hx:=(Ext.refl w3).drew.trans hd;have hw3:=hm.ext.trans hx;(conv=>whnf);rw [show ((hi:Int)-(lo:Int))=((hi-lo:Nat):Int) by omega];have hss:=qo3 209 (pp b4) (pp b5) (pp b7) (hi-lo) q wd' Oo (fun i w' hi' he=>by
   rw [eq];exact qpa b off i lo wd cp x b4 b5 b7 P p w' ((hw3.trans he).cell h1) ((hw3.trans he).cell h5) (hP.ext (hw3.trans he)) hw Oo ((hx.trans he).cell c4) ((hx.trans he).cell c5) ((hx.trans he).cell c7))
  refine zcv (hss) ?_
  simp_all
 (conv=>whnf);refine zd ?_;refine zd ?_;intro w4 he4;(conv=>whnf);exact ⟨Js,hm.ext.trans ((Ext.refl w3).drew.trans he4)⟩
theorem qch (b:Nat) (l:LB) (k i:Nat) (w:World) (h:TreeAt w b l) (hk:k+1<4) (hi:i≤1048576) (hvm:tVec l (k+1)=true→vM (qe l (k+1))≤vN (qe l (k+1))) :
  Gv Tryz.prog 131 [pp b,ii k,ii i] w fun r w'=>r=.tuple #[ii (chB l k i).1,ii (chB l k i).2]∧Ext w w':=by
 obtain ⟨P,cp,S,cs,V,hc,hP,hS,hl,hv⟩:=(h.lv (k+1) Oo).h;have hn:=h.n (k+1) hk;refine ze Tryz.func131 Tryz.ntmps131 ?_;refine zv ?_;refine IdxV.at_ (k+1) Oo Oo (zw ?_);refine LoadV.cellsE hc 7 (by rw [show tsz Tryz.prog 244=8 from by kernel_rfl];show 0+0+(k+1)*8+7=8*(k+1)+7;omega) rfl (zw ?_)
 rcases hv with ⟨hx|hx,rfl⟩|⟨_,htv,vb,rfl,hvo⟩
 ·omega
 ·refine zu ?_
  grind [chB,Ext.refl]
 have htv2:=htv;simp only [tVec,Bool.and_eq_true,decide_eq_true_eq] at htv2;obtain ⟨⟨hvok,hvn⟩,hvmm⟩:=htv2;have hvm:=hvm htv;obtain ⟨F,eF⟩:∃ F:Nat,F=if 0<i then seB (qe l (k+1)) (i-1) else 0:=⟨_,rfl⟩
 have hch:chB l k i=(F,max F (seB (qe l (k+1)) i)):=by grind [chB]
 rw [hch];have hs1:=q0r (B:=qe l (k+1)) (i-1) hvm;have hs2:=q0r (B:=qe l (k+1)) i hvm;have hF:F≤vN (qe l (k+1)):=by grind
 (conv=>whnf);refine zt ?_;refine zC (fun _=>zw ?_) (fun _=>zw ?_)
 ·refine LoadV.cellsE hc 7 (by rw [show tsz Tryz.prog 244=8 from by kernel_rfl];show 0+0+(k+1)*8+7=8*(k+1)+7;omega) rfl (zu ?_);rw [show ((i:Int)-1)=((i-1:Nat):Int) by omega];refine zcv (qfh (qe l (k+1)) S cs vb (i-1) w hS hl hvok (by rw [hvn,hvmm];exact hvo) hvm Oo) ?_;rintro r w1 ⟨rfl,he1⟩;refine zu ?_;refine LoadV.cellsE (hc.ext he1) 7 (by rw [show tsz Tryz.prog 244=8 from by kernel_rfl];show 0+0+(k+1)*8+7=8*(k+1)+7;omega) rfl (zw ?_);refine zcv (qfh (qe l (k+1)) S cs vb i w1 (hS.ext he1) hl hvok (by rw [hvn,hvmm];exact he1.get hvo) hvm Oo) ?_;rintro r w2 ⟨rfl,he2⟩;refine zu ?_;refine V.Fall.max2 rfl rfl rfl fun m hm=>?_;subst hm;(conv=>whnf);refine ⟨?_,he1.trans he2⟩
  grind
 ·refine LoadV.cellsE hc 7 (by rw [show tsz Tryz.prog 244=8 from by kernel_rfl];show 0+0+(k+1)*8+7=8*(k+1)+7;omega) rfl (zw ?_);refine zcv (qfh (qe l (k+1)) S cs vb i w hS hl hvok (by rw [hvn,hvmm];exact hvo) hvm Oo) ?_;rintro r w2 ⟨rfl,he2⟩;refine zu ?_;refine V.Fall.max2 rfl rfl rfl fun m hm=>?_;subst hm;conv=>whnf
  simp_all
open Go.RowKit
namespace V
section
variable {P:Program} {n:Nat} {r:Option Nat}
theorem q9r {row:String} {args:Array Value} {w:World} {R:Value→World→Prop} (h:Rows P row args w R):RowsIn (Fr r) 0 P row args w R:=fun c cs _=>by
 obtain ⟨v,w',hr,s⟩:=h c cs;exact ⟨v,w',hr,(stepsIn_wide.2 s:StepsIn (Machine.fenced P Fence.wide) P _ _)⟩
theorem qld {o:Oper} (hnd:r=none∨∀ c,o.op≠.defer c) {a:Act} {ds:List Deferred} {w:World} {K K2:Act→World→Prop} {Q Q2:Exit→Act→World→Prop} (hQ:∀ e a w,Q e a w→e=.normal)
  (hK:∀ a w,K a w→K2 { a with defers:=a.defers++ds } w) (h:o.wp P a w K Q):o.wpIn (Fr r) 0 P { a with defers:=a.defers++ds } w K2 Q2:=by
 refine ⟨fun _ _=>trivial,?_⟩;have he:({ a with defers:=a.defers++ds }:Act).eval=a.eval:=by rfl
 have hs:o.semAt (Fr r).round a.eval=execOp a.eval o:=by
  rcases hnd with rfl|hnd
  ·rfl
  grind [Oper.semAt_eq]
 rw [he,hs];unfold Oper.wp at h;have hp:∀ v,({ a with defers:=a.defers++ds }:Act).put o.dst v={ a.put o.dst v with defers:=(a.put o.dst v).defers++ds }:=fun v=>by cases o.dst<;>rfl
 generalize (execOp a.eval o).run P w=res at h;cases res with
 | ok nx w'=>
  cases nx with
  | value v=>show K2 _ _;rw [hp];exact hK _ _ h
  | skip=>show K2 _ _;rw [hp];exact hK _ _ h
  | defer d=>
   have h1:=hK _ _ h;show K2 _ _;cases hd:o.dst with
   | none=>rw [hd] at h1;exact h1
   | some t=>rw [hd] at h1;exact h1
  | enter f args=>
   refine ⟨(by grind [Fr]),qck.2 (Calls.mono h fun e w'' he=>?_)⟩;cases e with
   | returned v=>simp_all
   | panicked ch=>grind
   | outgrown=>obtain ⟨a',w',hq⟩:=he;grind
  | row row args=>
   refine ⟨(by grind [Fr]),q9r (Rows.mono h fun v w'' he=>?_)⟩
   simp_all
  | _=>exact h.elim
 | halt x w'=>
  cases x with
  | panic v=>have:=hQ _ _ _ h;cases this
  | _=>exact h.elim
def qzp (ops:List Oper):Bool:=ops.all fun o=>match o.op with
 | .defer _=>false
 | _=>true
theorem qtc {ops:List Oper} (h:qzp ops=true) {o:Oper} (ho:o∈ops):∀ c,o.op≠.defer c:=by
 intro c e;have:=List.all_eq_true.1 h o ho
 simp_all
theorem qry {ops:Array Oper} (hnd:r=none∨qzp ops.toList=true) {ds:List Deferred} {Q Q2:Exit→Act→World→Prop} (hQ:∀ e a w,Q e a w→e=.normal)
  (hk:∀ a w,Q .normal a w→Q2 .normal { a with defers:=a.defers++ds } w):∀ (fuel:Nat) (listed:Array Bool) (a:Act) (w:World),wpAny P .any ops Q fuel listed a w→
  wpAnyIn (Fr r) 0 P .any ops Q2 fuel listed { a with defers:=a.defers++ds } w
 | 0,_,_,_,h=>⟨h.1,hk _ _ h.2⟩
 | fuel+1,listed,a,w,h=>by
  refine ⟨fun hr=>hk _ _ (h.1 hr),fun i hi=>?_⟩;have h1:=h.2 i hi;unfold wpOp at h1;unfold wpOpIn;cases ho:ops[i]? with
  | none=>rw [ho] at h1;exact qry hnd hQ hk fuel _ _ _ h1
  | some o=>
   rw [ho] at h1;dsimp only at h1 ⊢;have hno:r=none∨∀ c,o.op≠.defer c:=hnd.imp_right fun hn=>qtc hn (Array.mem_toList_iff.2 (Array.mem_of_getElem? ho))
   split
   ·rename_i hw
    rw [if_pos hw] at h1
    rcases h1 with h1|⟨_,a',w',hq⟩
    ·exact qld hno hQ (fun a w h=>qry hnd hQ hk fuel _ a w h) h1
    ·have:=hQ _ _ _ hq;cases this
   ·rename_i hw
    rw [if_neg hw] at h1;refine ⟨fun _ _=>trivial,?_⟩;have hp:({ a with defers:=a.defers++ds }:Act).put o.dst undef={ a.put o.dst undef with defers:=(a.put o.dst undef).defers++ds }:=by cases o.dst<;>rfl
    rw [hp];exact qry hnd hQ hk fuel _ _ _ h1
theorem DrawW.any {id:Nat} {ops:Array Oper} {Q:QW} {ρ:Nat→Value} {ds:List Deferred} {w:World} (hm:P.follows .mixedOrders=true) (hnd:r=none∨qzp ops.toList=true)
  (h:AnyV P n ops (fun ρ' w'=>Q .normal ρ' ds w') ρ w):DrawW P n r id ops Q ρ ds w:=by
 refine ⟨fun a ha hd=>wpIn_region_any hm ?_⟩;have e:a={ ({ a with defers:=[] }:Act) with defers:=({ a with defers:=[] }:Act).defers++ds }:=by subst hd;rfl
 have h1:=qry (r:=r) (ds:=ds) (Q2:=qdm n Q) hnd (by grind) (fun a' w' h=>?_) _ _ _ _ (h.h { a with defers:=[] } ha)
 ·rw [← e] at h1;exact h1
 ·obtain ⟨_,ρ',hs,hq⟩:=h;have hd':a'.defers++ds=ds:=by rw [hs.defers];rfl
  refine ⟨ρ',?_,?_⟩
  ·show St n ρ' { a' with defers:=[] };have:({ a' with defers:=[] }:Act)=a':=by have:=hs.defers;cases a';grind
   grind
  grind
theorem q6e {α:Type} (l:α→List (Nat × Value)) (d:α→List Deferred) (I:α→World→Prop) (μ:α→Nat) {body:Code} {Q:QW} {ρ:Nat→Value} {ds:List Deferred} {w:World} (x0:α)
  (h0:qiq (l x0) ρ) (hd0:ds=d x0) (hI:I x0 w)
  (hr:∀ x w ρ',I x w→qdw P n r body (seqW (fun ρ'' ds'' w'=>∃ x',qiq (l x') ρ''∧ds''=d x'∧I x' w'∧μ x'<μ x) Q) (over (l x) ρ') (d x) w):LoopW P n r body Q ρ ds w:=by
 subst hd0;refine ⟨fun a ha hd=>?_⟩;intro b k cs hro hb hroom;have key:∀ m x,μ x=m→∀ ρ a w,qiq (l x) ρ→Sw n ρ a→a.defers=d x→I x w→
   ∃ e a' w',qdm n Q e a' w'∧ArrivesIn (Machine.fenced P (Fr r)) P (lone (b.atR a (.code body::.inLoop body::k)) cs w) b k cs e a' w':=by
  intro m
  induction m using Nat.strongRecOn with
  | _ m ih=>
   intro x hm ρ a w hag hst hds hI;have h1:=hr x w ρ hI;rw [qjf hag] at h1;obtain ⟨e,a₁,w₁,hq,harr⟩:=qdi body _ _ _ _ h1 a hst hds b (.inLoop body::k) cs hro hb hroom;obtain ⟨ρ₁,hst₁,hq⟩:=hq;cases e with
   | normal=>
    obtain ⟨x',hag',hds',hI',hlt⟩:=hq;obtain ⟨e₂,a₂,w₂,hq₂,harr₂⟩:=ih (μ x') (hm ▸ hlt) x' rfl ρ₁ a₁ w₁ hag' hst₁ hds' hI';exact ⟨e₂,a₂,w₂,hq₂,.of_steps (StepsIn.trans harr (.one (fenced_calm hb hroom rfl) stepR_inLoop)) harr₂⟩
   | exit id=>exact ⟨_,a₁,w₁,⟨ρ₁,hst₁,hq⟩,.pass (x:=.inLoop body) rfl Js harr⟩
   | goto l=>exact ⟨_,a₁,w₁,⟨ρ₁,hst₁,hq⟩,.pass (x:=.inLoop body) rfl Js harr⟩
   | ret=>exact ⟨_,a₁,w₁,⟨ρ₁,hst₁,hq⟩,.pass (x:=.inLoop body) rfl Js harr⟩
   | panic ch=>exact ⟨_,a₁,w₁,⟨ρ₁,hst₁,hq⟩,.pass (x:=.inLoop body) rfl Js harr⟩
   | outgrown=>exact ⟨_,a₁,w₁,⟨ρ₁,hst₁,hq⟩,.pass (x:=.inLoop body) rfl Js harr⟩
 obtain ⟨e,a',w',hq,harr⟩:=key _ x0 rfl ρ a w h0 ha hd hI;exact ⟨e,a',w',hq,.of_steps (.one (fenced_calm hb hroom rfl) stepR_loop) harr⟩
structure BeginA (J:List (Nat × Obj)→World→Prop) (l:Nat) (ob ob':Obj) (w:World) (ds:List Deferred) (K:World→Prop):Prop where
 d:ds=[]
 h:∃ Y,J ((l,ob)::Y) w∧∀ w2,J ((l,ob')::Y) w2→K w2
theorem q0c {f:Operand} {ps:Array Tmp} {assign body:Code} {Q:QW} {ρ:Nat→Value} {ds:List Deferred} {w:World} {Φ:World→Prop} {gf:FuncId} {lb:List Value} {xs:List (List Value)}
  (hf:ev ρ f=.func (.func gf) #[] lb.toArray) (he:qcm P gf=true) (hseq:SeqC P gf lb xs Φ) (hpn:ps.toList.all (Nat.blt · n)=true) (hps:∀ x∈xs,x.length=ps.size)
  (J:Nat→List (Nat × Obj)→World→Prop) (Jx:Code→Nat→List (Nat × Obj)→World→Prop) (hJ:∀ k,Carr (J k)) (hJx:∀ c k,Carr (Jx c k)) (hw:∀ k X w,J k X w→Φ w) (h0:J 0 [] w)
  (hbody:∀ l D ob ob' k x X w1,xs[k]?=some x→J k ((l,ob)::(D,.deferred (some []))::X) w1→
   qdw P n (some l) assign (q3v fun ρ1 ds1 w1'=>BeginA (J k) l ob ob' w1' ds1
    (fun w2=>qdw P n (some l) body (qtt (J (k+1) ((l,ob')::(D,.deferred (some []))::X)) (fun c=>Jx c k ((l,ob')::(D,.deferred (some []))::X))) ρ1 [] w2)) (qox ps.toList x ρ) [] w1)
  (hdone:∀ D w',J xs.length [(D,.deferred (some []))] w'→Q .normal ρ ({ target:=.collected D,args:=#[] }::ds) w')
  (hstop:∀ D c k w',k<xs.length→Jx c k [(D,.deferred (some []))] w'→qacy c Q ρ ({ target:=.collected D,args:=#[] }::ds) w'):RangeW P n none f ps assign body Q ρ ds w:=by
 refine ⟨fun a ha hd=>?_⟩;subst hd;refine wpIn_rangeFunc ?_;intro fn hfn;obtain ⟨rec,hrec⟩:∃ rec:LoopState→Option Code→Loop,rec=fun st pe=>{ state:=st,pending:=pe,fn,tmps:=a.tmps,params:=ps,assign,body,defers:=w.heap.size }:=⟨_,rfl⟩
 obtain ⟨W1,hW1⟩:∃ W1,(w.alloc (.deferred (some []))).alloc (.loop (rec .ready none))=W1:=⟨_,rfl⟩
 have hD:=(hJ 0).new (.deferred (some [])) h0;have hL:=(hJ 0).new (.loop (rec .ready none)) hD;rw [hW1,World.size_alloc] at hL;refine ⟨w.heap.size+1,[{ target:=.collected w.heap.size,args:=#[] }],W1,{ target:=.fn (.func gf) lb.toArray,args:=#[.func (.yield (w.heap.size+1)) #[] #[]] },W1,gf,
  #[.func (.yield (w.heap.size+1)) #[] #[]]++lb.toArray,W1,?_,?_,fun _ _=>trivial,?_,(by grind [Fr]),?_⟩
 ·rw [← hW1,hrec];exact run_enterLoop_outer _ _ _ _ _
 ·have:a.eval f=.func (.func gf) #[] lb.toArray:=by rw [ha.eval,hf]
  simp only [resolve,this];simp [go_sem]
 ·grind [invoke,qce]
 ·have ea:#[Value.func (.yield (w.heap.size+1)) #[] #[]]++lb.toArray=(Value.func (.yield (w.heap.size+1)) #[] #[]::lb).toArray:=by simp
  rw [ea];refine qck.2 ((hseq (w.heap.size+1) (fun k X W=>J k (X++[(w.heap.size+1,.loop (rec .ready none)),(w.heap.size,.deferred (some []))]) W)
   (fun k X W=>∃ c,Jx c k (X++[(w.heap.size+1,.loop (rec .done (some c))),(w.heap.size,.deferred (some []))]) W) W1
   (fun k=>(hJ k).tail _) (fun k=>Carr.any fun c=>(hJx c k).tail _) (by grind) hL ?_).2.mono ?_)
  ·intro k x X W hx hk;replace hk:=(hJ k).perm hk List.perm_append_comm;have hl:=(hJ k).get hk mh;have hy:=run_yield (P:=P) (args:=x.toArray) hl (by rw [hrec];simpa using hps x (zmg hx));rw [hrec] at hy;refine ⟨⟨fn,_,assign,body,hy,roundIn_of_wpIn hfn ?_⟩⟩;have h1:=hbody (w.heap.size+1) w.heap.size _ (.loop { rec .ready none with state:=.busy }) k x X W hx hk;have hz:(ps.zip x.toArray).foldl (fun t (p,v)=>t.setIfInBounds p v) a.tmps=(ps.toList.zip x).foldl (fun t (p,v)=>t.setIfInBounds p v) a.tmps:=by
    rw [← Array.foldl_toList];simp
   have hst:Sw n (qox ps.toList x ρ) { tmps:=(ps.zip x.toArray).foldl (fun t (p,v)=>t.setIfInBounds p v) a.tmps,defers:=[] }:=by
    rw [hz];exact qtz _ _ _ _ hpn ha
   refine Go.wpIn_mono (F:=Fr (some (w.heap.size+1))) (qdi assign _ _ _ _ h1 _ hst rfl) fun e a1 w1 hq=>?_;obtain ⟨ρ1,hst1,hq⟩:=hq;cases e with
   | normal=>
    obtain ⟨hd1,Y,hY,hb1⟩:=hq;have hb1:=hb1 _ ((hJ k).set (.loop { rec .ready none with state:=.busy }) hY);refine ⟨_,run_beginRound ((hJ k).get hY mh) (by rw [hrec]),?_⟩;refine Go.wpIn_mono (F:=Fr (some (w.heap.size+1))) (qdi body _ _ _ _ hb1 _ hst1 hd1) fun e a2 w2 hq=>?_;obtain ⟨ρ2,hst2,hq⟩:=hq;cases e with
    | normal=>
     refine ⟨_,_,run_endRound none ((hJ _).get hq mh),_,rfl,.inl ⟨rfl,?_⟩⟩;have:=(hJ (k+1)).perm ((hJ (k+1)).set (.loop (rec .ready none)) hq) (List.perm_append_comm (l₁:=[_,_]));rw [hrec] at this ⊢;exact this
    | ret=>
     refine ⟨_,_,run_endRound (some .ret) ((hJx _ _).get hq mh),_,rfl,.inr ⟨rfl,.ret,?_⟩⟩;have:=(hJx _ k).perm ((hJx _ k).set (.loop (rec .done (some .ret))) hq) (List.perm_append_comm (l₁:=[_,_]));rw [hrec] at this ⊢;exact this
    | exit id=>
     refine ⟨_,_,run_endRound (some (.exit id)) ((hJx _ _).get hq mh),_,rfl,.inr ⟨rfl,.exit id,?_⟩⟩;have:=(hJx _ k).perm ((hJx _ k).set (.loop (rec .done (some (.exit id)))) hq) (List.perm_append_comm (l₁:=[_,_]));rw [hrec] at this ⊢;exact this
    | goto t=>
     refine ⟨_,_,run_endRound (some (.goto t)) ((hJx _ _).get hq mh),_,rfl,.inr ⟨rfl,.goto t,?_⟩⟩;have:=(hJx _ k).perm ((hJx _ k).set (.loop (rec .done (some (.goto t)))) hq) (List.perm_append_comm (l₁:=[_,_]));rw [hrec] at this ⊢;exact this
    | panic ch=>exact hq.elim
    | outgrown=>exact hq.elim
   | ret=>exact hq.elim
   | exit id=>exact hq.elim
   | goto t=>exact hq.elim
   | panic ch=>exact hq.elim
   | outgrown=>exact hq.elim
  ·rintro e W2 ⟨v,rfl,h|⟨k,hk,c,h⟩⟩
   ·have hl:=(hJ _).get h mh;have:=run_endLoop (P:=P) hl (by rw [hrec];simp);rw [hrec] at this;exact ⟨none,_,this,ρ,ha,hdone _ _ ((hJ _).drop ((hJ _).set _ h))⟩
   ·have hl:=(hJx _ _).get h mh;have:=run_endLoop (P:=P) hl (by rw [hrec];simp);rw [hrec] at this;refine ⟨some c,_,this,?_⟩;have hs:=hstop _ c k _ hk ((hJx _ _).drop ((hJx _ _).set (.loop { rec .done (some c) with state:=.exhausted }) h));rw [hrec] at hs;cases c with
    | ret=>exact Go.wpIn_ret ⟨ρ,ha,hs⟩
    | exit id=>exact Go.wpIn_exit ⟨ρ,ha,hs⟩
    | goto t=>exact Go.wpIn_goto ⟨ρ,ha,hs⟩
    | _=>exact hs.elim
def qqg (D:Nat):Deferred:={ target:=.collected D,args:=#[] }
def q8g (D:Nat):Nat × Obj:=(D,.deferred (some []))
theorem qhp {fn:Func} {R:Value→World→Prop} {ρ:Nat→Value} {J:List (Nat × Obj)→World→Prop} (hJ:Carr J) (hk:∀ w',J [] w'→resV fn.results ρ w' fn R P n) :
  ∀ (Ds:List Nat) (w:World),J (Ds.map q8g) w→qks P n fn R ρ (Ds.map qqg) w
 | [],w,h=>hk w h
 | D::Ds,w,h=>by
  show LeaveV P n fn R ρ (qqg D::Ds.map qqg) w;refine LeaveV.mark (hJ.get h mh) fun w' hw=>?_;subst hw;exact qhp hJ hk Ds _ (hJ.drop (hJ.set _ h))
theorem Carr.setM {J:List (Nat × Obj)→World→Prop} (h:Carr J) {A B:List (Nat × Obj)} {b:Nat} {o:Obj} {w:World} (o':Obj) (k:J (A++(b,o)::B) w):J (A++(b,o')::B) (setO w b o'):=
 h.perm (h.set o' (h.perm k List.perm_middle)) List.perm_middle.symm
theorem LeaveV.marks {fn:Func} {R:Value→World→Prop} {ρ:Nat→Value} {J:List (Nat × Obj)→World→Prop} (hJ:Carr J) (hk:∀ w',J [] w'→resV fn.results ρ w' fn R P n) {D:Nat} {Ds:List Nat} {w:World} (h:J ((D::Ds).map q8g) w) :
  LeaveV P n fn R ρ (qqg D::Ds.map qqg) w:=qhp hJ hk (D::Ds) w h
theorem Carr.dropM {J:List (Nat × Obj)→World→Prop} (h:Carr J) {A B:List (Nat × Obj)} {x:Nat × Obj} {w:World} (k:J (A++x::B) w):J (A++B) w:=h.drop (h.perm k List.perm_middle)
theorem qow {w:World} {b off:Nat} {v:Value} {cs:Array Value} {t:TypeId} {fr:Nat × Nat} (h:w.heap[b]?=some (.cells cs t fr)):w.setCell ⟨b,off,none⟩ v=setO w b (.cells (cs.setIfInBounds off v) t fr):=by
 unfold World.setCell setO
 congr 1
 grind
theorem StoreV.carr {J:List (Nat × Obj)→World→Prop} (hJ:Carr J) {A B:List (Nat × Obj)} {b off:Nat} {cs:Array Value} {t:TypeId} {v:Value} {w:World} {K:World→Prop} (h:J (A++(b,.cells cs t)::B) w) (ho:off<cs.size) (h1:qb6 v=true)
  (hk:∀ w',J (A++(b,.cells (cs.setIfInBounds off v) t)::B) w'→K w'):StoreV w b off v K:=by
 have hg:=hJ.get h (List.mem_append_right _ mh);refine StoreV.own hg ho h1 fun w' hw=>hk w' ?_
 rw [hw,qow hg];exact hJ.setM _ h
theorem NewV.carr {J:List (Nat × Obj)→World→Prop} (hJ:Carr J) {X:List (Nat × Obj)} {o:Obj} {w:World} {K:Nat→World→Prop} (h:J X w) (hk:∀ b w',J ((b,o)::X) w'→K b w'):NewV w o K:=
 ⟨fun b w' hb hw=>by subst hb hw;exact hk _ _ (hJ.new o h)⟩
theorem LoadV.carr {J:List (Nat × Obj)→World→Prop} (hJ:Carr J) {X:List (Nat × Obj)} {b off:Nat} {cs:Array Value} {t:TypeId} {fr:Nat × Nat} {v:Value} {w:World} {K:Value→Prop} (h:J X w) (hx:(b,Obj.cells cs t fr)∈X) (hv:cs[off]?=some v) (hk:K v):LoadV w b off K:=
 LoadV.own (hJ.get h hx) hv hk
end
end V
end Go.Proofs.YtccmcfpmknpccaaGreatDoor
