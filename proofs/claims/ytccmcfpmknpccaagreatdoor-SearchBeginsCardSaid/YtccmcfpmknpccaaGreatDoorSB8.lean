/- Lemmas and contracts of functions on the way to the law's card (part 8 of 16). -/
import Derived.Test.YtccmcfpmknpccaaGreatDoorSB7
import Derived.OrdersIn
namespace Go.Proofs.YtccmcfpmknpccaaGreatDoor
set_option maxHeartbeats 8000000
open Go.RowKit V
variable {ahead d l s:LB} {a b c hi i id j k lo m off:Nat} {S:List Bool} {Q:Nat->Nat->Nat} {w:Dc} {R:Di} {o:Oper} {ds:Dq} {ops:Array Oper} {ρ:Dj} {assign body:Code} {gf:FuncId} {lb:Dm} {J:Dl->Dk} {B:Dl} {cs:Dp} {fr:Nat×Nat} {K':Act->Dk} {Q':Exit->Act->Dk}
theorem qix:∀a b:LB,comL a b<=a.length/\comL a b<=b.length/\a.take (comL a b)=b.take (comL a b)
 | [],[]=>⟨Ao _,Ao _,rfl⟩
 | [],_::_=>⟨An _,An _,rfl⟩
 | _::_,[]=>⟨An _,An _,rfl⟩
 | x::a,y::b=>by
  by_cases h:x=y
  ·subst h;obtain⟨H,O,U⟩:=qix a b;rw[comL,Af rfl];exact⟨by simpa using H,by simpa using O,by rw[List.take_succ_cons,List.take_succ_cons,U]⟩
  ·rw[comL,Ab h];exact⟨An _,An _,rfl⟩
def entE(first:Bool)(ahead s:LB):LB:=
 if first then varL s.length++s else varL (comL ahead s)++(varL (s.length-comL ahead s)++s.drop (comL ahead s))
theorem qf{H:Type}(a b:List H):(a++b).drop a.length=b:=by simp
theorem qno{first:Bool}(r:LB)(W:s.length<=262144)(Z:ahead.length<=262144):entG (entE first ahead s++r) first ahead=(s,(entE first ahead s).length,0):=by
 cases first with
 | true=>
  have e:entE true ahead s=varL s.length++s:=by rfl
  grind [qa0,entG]
 | false=>
  have e:entE false ahead s=varL (comL ahead s)++(varL (s.length-comL ahead s)++s.drop (comL ahead s)):=by rfl
  obtain⟨c1,c2,H⟩:=qix ahead s;rw[e,Au,Au];have O:=qa0 (n:=comL ahead s) Oo (varL (s.length-comL ahead s)++(s.drop (comL ahead s)++r));have U:=qa0 (n:=s.length-comL ahead s) Oo (s.drop (comL ahead s)++r);unfold entG;rw[Ab Bool.false_ne_true,O];dsimp only;rw[Ab Oo,qf,U];dsimp only;rw[Ab Oo,Ab Oo,Ab Oo,Ab Js,H,<-Ax,qf,qf]
  grind [zld,List.take_append_drop]
def tx(L:List LB)(i:Nat):LB:=L.getD i []
def arL(L:List LB):Nat->LB
 | 0=>[]
 | i+1=>arL L i++entE (decide (i%16=0)) (if i=0 then[]else tx L (i-1)) (tx L i)
theorem qle(L:List LB){i:Nat}:∀{n:Nat},i<=n->∃r,arL L n=arL L i++r
 | 0,h=>⟨[],by simp_all⟩
 | n+1,h=>by
  by_cases e:i=n+1
  ·simp_all
  ·obtain⟨r,H⟩:=qle L (i:=i) (n:=n) Oo
   grind [arL]
theorem qrr(L:List LB){n:Nat}(h:i<n):∃r,(arL L n).drop (arL L i).length=entE (decide (i%16=0)) (if i=0 then[]else tx L (i-1)) (tx L i)++r:=by
 obtain⟨r,H⟩:=qle L (i:=i+1) (n:=n) h
 grind [arL]
def byt(f:Nat->Nat)(b:Nat):Nat:=
 f (8*b)%2+2*(f (8*b+1)%2)+4*(f (8*b+2)%2)+8*(f (8*b+3)%2)+16*(f (8*b+4)%2)+32*(f (8*b+5)%2)+64*(f (8*b+6)%2)+128*(f (8*b+7)%2)
theorem qrz(f:Nat->Nat)(b:Nat):byt f b<256:=by unfold byt;omega
theorem q7b(f:Nat->Nat)(b:Nat):∀{r:Nat},r<8->byt f b/2 ^ r%2=f (8*b+r)%2
 | 0,_=>by grind [byt]
 | 1,_=>by unfold byt;simp;omega
 | 2,_=>by unfold byt;simp;omega
 | 3,_=>by unfold byt;simp;omega
 | 4,_=>by unfold byt;simp;omega
 | 5,_=>by unfold byt;simp;omega
 | 6,_=>by unfold byt;simp;omega
 | 7,_=>by grind [byt]
 | _+8,h=>by omega
def qbz(f:Nat->Nat)(n:Nat):LB:=(List.range n).map λb=>UInt8.ofNat (byt f b)
theorem qc6(f:Nat->Nat)(n:Nat):(qbz f n).length=n:=by simp[qbz]
theorem q2a(f:Nat->Nat){n:Nat}(h:b<n):((qbz f n).getD b 0).toNat=byt f b:=by
 grind [qbz,qar,qrz]
theorem qfj(f:Nat->Nat){n t:Nat}(h:t<8*n):bitN (qbz f n) t=f t%2:=by
 grind [bitN,q2a,q7b]
def qc2(l:Dn)(w:Nat):LB:=qbz (λt=>l.getD (t/w) 0/2 ^ (t%w)) ((l.length*w+7)/8)
theorem qby(l:Dn)(w:Nat):(qc2 l w).length=(l.length*w+7)/8:=qc6 _ _
theorem qzz{l:Dn}{w:Nat}(hi:i<l.length)(O:k<w):bitN (qc2 l w) (i*w+k)=l.getD i 0/2 ^ k%2:=by
 have H:(i+1)*w<=l.length*w:=Bc _ hi;rw[Nat.add_mul]at H;have U:(i*w+k)/w=i:=by grind [Nat.mul_comm,Nat.mul_add_div,Nat.div_eq_of_lt]
 grind [Nat.mul_comm,Nat.mul_add_mod,Nat.mod_eq_of_lt,qc2,qfj]
theorem qkt{l:Dn}{w i:Nat}(hi:i<l.length):∀{k:Nat},k<=w->valB (qc2 l w) (i*w) k=l.getD i 0%2 ^ k
 | 0,_=>by rw[valB,Nat.pow_zero,Nat.mod_one]
 | k+1,h=>by
  rw[valB,qkt hi Oo,qzz hi Oo,Nat.mod_pow_succ,BN (2 ^ k)]
theorem qjd{l:Dn}{w:Nat}(hi:i<l.length)(h:l.getD i 0<2 ^ w):valB (qc2 l w) (i*w) w=l.getD i 0:=by
 grind [qkt,Nat.mod_eq_of_lt]
theorem qn8(l:Dn)(w:Nat):¬PadB (qc2 l w) (l.length*w):=by
 rintro⟨t,U,H,O⟩;rw[qby]at H;rw[qc2,qfj _ H]at O;have W:0<w:=by
  grind
 simp_all[Nat.le_div_iff_mul_le]
theorem ql8:∀{n:Nat},n<18446744073709551616->n<2 ^ qae n:=by
 intro n
 induction n using Nat.strongRecOn<;>grind [qer]
def plcL(L:List LB):Dn:=(List.range (upN L.length 16)).map λk=>(arL L (16*k)).length
def qaj(L:List LB):LB:=arL L L.length
def qk(L:List LB):LB:=varL L.length++(varL (qaj L).length++(qc2 (plcL L) (qae (qaj L).length)++qaj L))
structure DOk(L:List LB):Prop where
 n:L.length<=4194304
 len:∀i,(tx L i).length<=262144
 rise:∀i,i+1<L.length->leL (tx L (i+1)) (tx L i)=false
 area:(qaj L).length<=67108864
theorem qij(L:List LB):(plcL L).length=upN L.length 16:=by simp[plcL]
theorem qz5{L:List LB}(h:k<upN L.length 16):(plcL L).getD k 0=(arL L (16*k)).length:=by
 grind [plcL]
section
variable {L:List LB} (h:DOk L)
include h
theorem DOk.num0:numL (qk L)=(L.length,(varL L.length).length,0):=qa0 (by have:=h.n;omega) _
theorem DOk.vAt1:vAt (qk L) 1=(varL L.length).length:=by rw[vAt,vAt,B7,h.num0,Aq]
theorem DOk.drop1:(qk L).drop (varL L.length).length=varL (qaj L).length++(qc2 (plcL L) (qae (qaj L).length)++qaj L):=have _:=h;qf _ _
theorem DOk.num1:numL ((qk L).drop (vAt (qk L) 1))=((qaj L).length,(varL (qaj L).length).length,0):=by
 rw[h.vAt1,h.drop1];exact qa0 (by have:=h.area;omega) _
theorem DOk.eN:dN (qk L)=L.length:=by rw[dN,vNum,vAt,B7,h.num0]
theorem DOk.eSize:quf (qk L)=(qaj L).length:=by rw[quf,vNum,h.num1]
theorem DOk.eThird:qcb (qk L)=(varL L.length).length+(varL (qaj L).length).length:=by rw[qcb,vAt,h.num1,h.vAt1]
theorem DOk.eFourth:qx (qk L)=(varL L.length).length+(varL (qaj L).length).length+(qc2 (plcL L) (qae (qaj L).length)).length:=by
 rw[qx,h.eThird,h.eN,dW,h.eSize,qby,qij]
theorem DOk.eEntries:qc (qk L)=qaj L:=by
 rw[qc,h.eFourth,<-Ax,<-Ax,h.drop1,qf,qf]
theorem DOk.ePlaces:qah (qk L)=qc2 (plcL L) (qae (qaj L).length):=by
 rw[qah,h.eFourth,h.eThird,<-Ax,h.drop1,qf,BL,Bx znr,BK]
theorem DOk.len_eq:(qk L).length=(varL L.length).length+(varL (qaj L).length).length+(qc2 (plcL L) (qae (qaj L).length)).length+(qaj L).length:=by
 have _:=h;grind [qk]
theorem DOk.eE:(dE (qk L)).2=0:=by
 have U:(errF (dhF (qk L)) 2).2=0:=qbd λk H=>by
  have hn:=h.n;have O:=h.area
  match k,H with
  | 0,_=>rw[dhF,Af rfl,qg8 (by rw[vAt,B7,h.num0]) (by rw[show vNum (qk L) 0=_ from h.eN];exact hn)]
  | 1,_=>rw[dhF,Ab Od,qg8 (by rw[h.num1]) (by rw[show vNum (qk L) 1=_ from h.eSize];exact O)]
 rw[dE,Ab Oo,dEnd,h.eFourth,h.eSize,h.len_eq,Ab Oo,Ab Oo]
theorem DOk.ePlace(H:k<upN L.length 16):qy (qk L) k=(arL L (16*k)).length:=by
 have O:=h.area;have hn:16*k<=L.length:=by grind [upN]
 obtain⟨r,U⟩:=qle L hn;have W:(arL L (16*k)).length<=(qaj L).length:=by grind [qaj]
 rw[qy,h.ePlaces,dW,h.eSize,qjd (by rw[qij];exact H),qz5 H]
 grind [qz5,ql8]
theorem DOk.eSt:∀{i:Nat},i<=L.length->dSt (qk L) i=(if i=0 then[]else tx L (i-1),(arL L i).length)
 | 0,_=>by rfl
 | i+1,hi=>by
  have H:=DOk.eSt (i:=i) Oo;obtain⟨r,O⟩:=qrr L (i:=i) (n:=L.length) hi;have U:(if i=0 then[]else tx L (i-1)).length<=262144:=by split;exact An _;exact h.len _
  rw[q2p H rfl,h.eEntries,qaj,O,qno r (h.len i) U,arL,zla,Ab (Nat.succ_ne_zero i),Bj]
theorem DOk.ent(hi:i<L.length):∃r,(qc (qk L)).drop (dSt (qk L) i).2=entE (decide (i%16=0)) (dSt (qk L) i).1 (tx L i)++r:=by
 obtain⟨r,H⟩:=qrr L (i:=i) (n:=L.length) hi;refine⟨r,?_⟩;rw[h.eSt Oo,h.eEntries];exact H
theorem DOk.enF(hi:i<L.length):(dnF (qk L) i).2=0:=by
 obtain⟨r,O⟩:=h.ent hi;have U:(dSt (qk L) i).1.length<=262144:=by rw[h.eSt Oo];show(if _ then _ else _:LB).length<=_;split;exact An _;exact h.len _
 have W:=qno (first:=decide (i%16=0)) r (h.len i) U;have H:(dSt (qk L) (i+1)).1=tx L i:=by rw[h.eSt Oo,Ab (Nat.succ_ne_zero i),Bj]
 rw[dnF,O,W,H];rw[Ab (λg=>g.2 (by rw[h.ePlace (by unfold upN;omega),h.eSt Oo,show 16*(i/16)=i by omega]))];rw[Ab Js];rw[Ab (λg=>by
  have:=h.rise (i-1) Oo;rw[show i-1+1=i by omega]at this;rw[h.eSt Oo,Ab Oo]at g
  simp_all)]
 grind [entE,qa0,qix,qng]
theorem DOk.eoE:doE (qk L)=(0,0):=by
 refine qaba h.eE ?_ (λj H=>h.enF (by rw[<-h.eN];exact H)) ?_
 ·refine BH λg=>?_;have:=(qzq _ _ _).1 g;rw[h.ePlaces,h.eN,dW,h.eSize,<-qij]at this;exact qn8 _ _ this
 ·rw[h.eN,h.eSt znr,h.eEntries];exact CU _
theorem DOk.eGet(hi:i<L.length):dGet (qk L) i=some (tx L i):=by
 have H:=(qpn (m:=qk L) (i:=i+1) λk O=>h.enF Oo).2 Oo (by rw[h.eN];omega);rw[Bj,h.eSt Oo,Ab Oo,Bj]at H;exact H
end
def jo3(a b c:LB):LB:=varL a.length++(varL b.length++(varL c.length++(a++(b++c))))
section
variable {a b c:LB} (h:a.length+b.length+c.length<=67108864)
include h
theorem qyk:numL (jo3 a b c)=(a.length,(varL a.length).length,0):=qa0 Oo _
theorem q59:vAt (jo3 a b c) 1=(varL a.length).length:=by grind [vAt,qyk]
theorem qyl:numL ((jo3 a b c).drop (vAt (jo3 a b c) 1))=(b.length,(varL b.length).length,0):=by
 grind [q59,jo3,qa0]
theorem q6a:vAt (jo3 a b c) 2=(varL a.length).length+(varL b.length).length:=by rw[vAt,qyl h,q59 h]
theorem qym:numL ((jo3 a b c).drop (vAt (jo3 a b c) 2))=(c.length,(varL c.length).length,0):=by
 grind [q6a,jo3,qa0]
theorem q6b:vAt (jo3 a b c) 3=(varL a.length).length+(varL b.length).length+(varL c.length).length:=by rw[vAt,qym h,q6a h]
theorem qyn:vNum (jo3 a b c) 0=a.length:=by grind [vNum,vAt,qyk]
theorem qyo:vNum (jo3 a b c) 1=b.length:=by rw[vNum,qyl h]
theorem qyp:vNum (jo3 a b c) 2=c.length:=by rw[vNum,qym h]
theorem q6d:q8 (jo3 a b c) 1=vAt (jo3 a b c) 3+a.length:=by rw[q8,q8,qyn h]
theorem q6e:q8 (jo3 a b c) 2=vAt (jo3 a b c) 3+a.length+b.length:=by rw[q8,q6d h,qyo h]
theorem qabj:q8 (jo3 a b c) 3=vAt (jo3 a b c) 3+a.length+b.length+c.length:=by rw[q8,q6e h,qyp h]
theorem ql4:(jo3 a b c).drop (vAt (jo3 a b c) 3)=a++(b++c):=by
 rw[q6b h,jo3,<-Ax,<-Ax,qf,qf,qf]
theorem q76:(jo3 a b c).length=vAt (jo3 a b c) 3+a.length+b.length+c.length:=by
 grind [q6b,jo3]
theorem qabk:(sE (jo3 a b c)).2=0:=by
 have O:(errF (vsF (jo3 a b c)) 3).2=0:=qbd λk H=>by
  match k,H with
  | 0,_=>grind [vsF,qg8,vAt,qyk,qyn]
  | 1,_=>grind [vsF,qg8,qyl,qyo]
  | 2,_=>grind [vsF,qg8,qym,qyp]
 grind [sE,qabj,q76]
theorem qabg:sDict (jo3 a b c) 0=a:=by
 grind [sDict,q8,ql4,qyn]
theorem qabh:sDict (jo3 a b c) 1=b:=by
 grind [sDict,q6d,List.drop_drop,ql4,qyo,List.take_left]
theorem qabi:sDict (jo3 a b c) 2=c:=by
 grind [sDict,q6e,List.drop_drop,ql4,qf,qyp]
end
def secE(T:List TM)(k:Nat):List LB:=(T.filter λt=>decide (t.kind=((k+1:Nat):Int))).map qad
def vocB(T:List TM):LB:=jo3 (qk (secE T 0)) (qk (secE T 1)) (qk (secE T 2))
structure VOk(T:List TM):Prop where
 d:∀k,k<3->DOk (secE T k)
 size:(qk (secE T 0)).length+(qk (secE T 1)).length+(qk (secE T 2)).length<=67108864
section
variable {T:List TM} (h:VOk T)
include h
theorem VOk.sDict{k:Nat}(H:k<3):sDict (vocB T) k=qk (secE T k):=
 match k,H with
 | 0,_=>qabg h.size
 | 1,_=>qabh h.size
 | 2,_=>qabi h.size
theorem VOk.sE:(sE (vocB T)).2=0:=qabk h.size
theorem VOk.doE{k:Nat}(H:k<3):(doE (Go.Proofs.YtccmcfpmknpccaaGreatDoor.sDict (vocB T) k)).2=0:=by rw[h.sDict H,(h.d k H).eoE]
theorem VOk.dN{k:Nat}(H:k<3):dN (Go.Proofs.YtccmcfpmknpccaaGreatDoor.sDict (vocB T) k)=(secE T k).length:=by rw[h.sDict H,(h.d k H).eN]
theorem VOk.get(H:k<3)(O:j<(secE T k).length):dGet (Go.Proofs.YtccmcfpmknpccaaGreatDoor.sDict (vocB T) k) j=some (tx (secE T k) j):=by rw[h.sDict H,(h.d k H).eGet O]
theorem VOk.wE:(wE (vocB T)).2=0:=by
 rw[Go.Proofs.YtccmcfpmknpccaaGreatDoor.wE,Ab (by rw[h.sE];omega)];exact qbd λk H=>by rw[sdF,Af (qsd (h.doE H)).1]
theorem VOk.vwE(ht:∀t∈T,qa2 t=0):(vwE (vocB T)).2=0:=by
 refine qacy h.sE (λk H=>h.doE H) λk H=>qacx λj W hb=>?_;rw[h.dN H]at W;obtain⟨s,Z,hn⟩:=hb;rw[h.get H W]at Z;cases Z;have O:j<(T.filter λt=>decide (t.kind=((k+1:Nat):Int))).length:=by grind [secE]
 have hm:=AP O;have U:=Bt.1 hm;refine hn _ ⟨by simp_all,ht _ U.1,?_⟩
 grind [tx,secE]
end
section
variable {d:LB} {n:Nat} (hn:n<=67108864) (hd:d.length=upN n 8)
include hn
theorem qci:vN (qab d n)=n:=by
 grind [qab,qh,vN,qgz]
theorem qeq:vM (qab d n)=cnt d n:=by
 have H:=qdu d n;have e:((qab d n).drop 4).take 4=fixL (cnt d n) 4:=by
  rfl
 grind [vM,qgz]
include hd
theorem qgj:vD (qab d n)=d:=by
 rw[vD,qci hn]
 simp_all[qab,fixL]
theorem qjz:vOk (qab d n)=true:=by
 grind [qed,qdu,vOk,qci,qeq,qa7,qak,qz,qi]
theorem q5r(H:¬PadB d n):voE (qab d n)=(0,0):=by
 grind [qacw,qgj,qci,qeq]
end
def frU(Q:Nat->Nat->Nat)(i:Nat):Nat->Bool
 | 0=>i==0||Q i 0 != Q (i-1) 0
 | k+1=>frU Q i k||Q i (k+1) != Q (i-1) (k+1)
theorem qfs(Q:Nat->Nat->Nat):∀k,frU Q 0 k=true
 | 0=>rfl
 | k+1=>by rw[frU,qfs Q k];rfl
theorem qnu{Q:Nat->Nat->Nat}{i k:Nat}(h:frU Q i k=true):∀{m:Nat},k<=m->frU Q i m=true
 | 0,H=>by rwa[Nat.le_zero.1 H]at h
 | m+1,H=>by
  by_cases e:k=m+1
  ·rwa[e]at h
  ·rw[frU,qnu h (m:=m) Oo];rfl
theorem qfr{Q:Nat->Nat->Nat}{i:Nat}:∀{k:Nat},frU Q i k=false->0<i/\∀j,j<=k->Q i j=Q (i-1) j
 | 0,h=>by
  grind [frU]
 | k+1,h=>by
  simp only[frU,CN,bne_eq_false_iff_eq]at h;obtain⟨H,O⟩:=qfr h.1
  grind
theorem qx1{Q:Nat->Nat->Nat}{i:Nat}(H:0<i):∀{k:Nat},(∀j,j<=k->Q i j=Q (i-1) j)->frU Q i k=false
 | 0,h=>by simp only[frU,CN,beq_eq_false_iff_ne,bne_eq_false_iff_eq];exact⟨by omega,h 0 znr⟩
 | k+1,h=>by
  rw[frU,qx1 H λj O=>h j Oo];simp only[Bool.false_or,bne_eq_false_iff_eq];exact h (k+1) znr
def nuT(Q:Nat->Nat->Nat)(k:Nat):Nat->Dn
 | 0=>[]
 | i+1=>if frU Q i k=true then nuT Q k i++[Q i k]else nuT Q k i
def stT(Q:Nat->Nat->Nat)(k:Nat):Nat->List Bool
 | 0=>[]
 | i+1=>if frU Q i (k+1)=true then stT Q k i++[frU Q i k]else stT Q k i
def leT(Q:Nat->Nat->Nat)(k i:Nat):Nat:=(nuT Q k i).length
section
variable {Q:Nat->Nat->Nat}
theorem qaz(h:frU Q i k=true):leT Q k (i+1)=leT Q k i+1:=by grind [leT,nuT]
theorem qbb(h:frU Q i k=false):leT Q k (i+1)=leT Q k i:=by grind [leT,nuT]
theorem qsr(k:Nat):∀i,leT Q k i<=i
 | 0=>Ao _
 | i+1=>by
  have:=qsr k i;cases h:frU Q i k with
  | true=>rw[qaz h];omega
  | false=>rw[qbb h];omega
theorem qdz(k:Nat)(h:0<i):0<leT Q k i:=by
 induction i with
 | zero=>omega
 | succ i H=>
  by_cases e:i=0
  ·grind [qaz,qfs]
  ·have:=H Oo;cases h:frU Q i k<;>grind [qaz,qbb]
theorem qax(k:Nat){a:Nat}:∀{b:Nat},a<=b->leT Q k a<=leT Q k b
 | 0,h=>by rw[Nat.le_zero.1 h];exact Ao _
 | b+1,h=>by
  by_cases e:a=b+1
  ·rw[e];exact Ao _
  ·have:=qax k (a:=a) (b:=b) Oo;cases h:frU Q b k with
   | true=>rw[qaz h];omega
   | false=>rw[qbb h];omega
theorem qn4(k:Nat):∀i,leT Q k i<=leT Q (k+1) i
 | 0=>Ao _
 | i+1=>by
  have:=qn4 k i;cases h:frU Q i k with
  | true=>rw[qaz h,qaz (qnu h (m:=k+1) (BY k))];omega
  | false=>
   rw[qbb h];cases H:frU Q i (k+1)with
   | true=>rw[qaz H];omega
   | false=>rw[qbb H];omega
theorem qbm(k:Nat):∀i,(stT Q k i).length=leT Q (k+1) i
 | 0=>rfl
 | i+1=>by
  have:=qbm k i;cases h:frU Q i (k+1)with
  | true=>rw[qaz h,stT,Af h];simp[this]
  | false=>rw[qbb h,stT,Ab (by rw[h];decide),this]
theorem qjr(k:Nat):∀i,(stT Q k i).count true=leT Q k i
 | 0=>rfl
 | i+1=>by
  have:=qjr k i;cases h:frU Q i (k+1)with
  | true=>
   rw[stT,Af h,List.count_append,this];cases H:frU Q i k with
   | true=>rw[qaz H];rfl
   | false=>rw[qbb H];rfl
  | false=>
   have H:frU Q i k=false:=by
    cases H:frU Q i k with
    | true=>rw[qnu H (m:=k+1) (BY k)]at h;cases h
    | false=>rfl
   rw[qbb H,stT,Ab (by rw[h];decide),this]
theorem qkq(k:Nat):∀{i n:Nat},i<n->(nuT Q k n).getD (leT Q k (i+1)-1) 0=Q i k
 | i,0,h=>by omega
 | i,n+1,h=>by
  by_cases e:i=n
  ·subst e;cases H:frU Q i k with
   | true=>
    rw[qaz H,Bj,nuT,Af H,Am];simp[leT]
   | false=>
    have U:=qfr H;have O:=qkq k (i:=i-1) (n:=i) Oo;rw[qbb H,nuT,Ab (by rw[H];decide)];rw[BD Oo]at O;rw[O];exact(U.2 k znr).symm
  ·have O:=qkq k (i:=i) (n:=n) Oo;have W:=qax (Q:=Q) k (a:=i+1) (b:=n) Oo;have Z:=qdz (Q:=Q) k (i:=i+1) Oo;cases H:frU Q n k with
   | true=>
    rw[nuT,Af H,Am,Ba (by show _<leT Q k n;omega),<-Am];exact O
   | false=>rw[nuT,Ab (by rw[H];decide)];exact O
end
def laT(S:List Bool)(t:Nat):Nat:=if t+1=S.length then 1 else if S.getD (t+1) false=true then 1 else 0
def qaw(S:List Bool):LB:=qbz (laT S) (upN S.length 8)
theorem qabn(S:List Bool)(t:Nat):laT S t%2=laT S t:=by
 grind [laT]
theorem qcd(S:List Bool):(qaw S).length=upN S.length 8:=qc6 _ _
theorem qfu{t:Nat}(h:t<S.length):bitN (qaw S) t=laT S t:=by
 grind [qaw,qfj,upN,qabn]
theorem qn2(S:List Bool):¬PadB (qaw S) S.length:=by
 rintro⟨t,H,O,U⟩
 grind [qcd,qaw,qfj,laT]
theorem qk1(S:List Bool){e:Nat}(h:e<S.length):(S.take (e+1)).count true=(S.take e).count true+(if S.getD e false=true then 1 else 0):=by
 grind [List.take_succ_eq_append_getElem]
theorem qi4{S:List Bool}(H:S.getD 0 false=true):∀{e:Nat},e<S.length->cnt (qaw S) e+1=(S.take (e+1)).count true
 | 0,h=>by rw[qk1 S h,H];rfl
 | e+1,h=>by
  have O:=qi4 H (e:=e) Oo;rw[cnt,qk1 S h,qfu Oo,laT,Ab Oo];omega
theorem qyw(H:S.getD 0 false=true)(O:0<S.length):cnt (qaw S) S.length=S.count true:=by
 have U:=qi4 H (e:=S.length-1) Oo
 grind [cnt,qfu,laT]
theorem qmt(Q:Nat->Nat->Nat)(k:Nat){a:Nat}:∀{b:Nat},a<=b->∃r,stT Q k b=stT Q k a++r
 | 0,h=>⟨[],by simp_all⟩
 | b+1,h=>by
  by_cases e:a=b+1
  ·simp_all
  ·obtain⟨r,H⟩:=qmt Q k (a:=a) (b:=b) Oo
   grind [stT]
theorem qtv(Q:Nat->Nat->Nat)(k:Nat){n:Nat}(h:0<n):(stT Q k n).getD 0 false=true:=by
 obtain⟨r,H⟩:=qmt Q k (a:=1) (b:=n) h
 grind [stT,qfs]
theorem qjq(Q:Nat->Nat->Nat)(k:Nat){n:Nat}(h:i<n):cnt (qaw (stT Q k n)) (leT Q (k+1) (i+1)-1)=leT Q k (i+1)-1:=by
 have H:=qdz (Q:=Q) (k+1) (i:=i+1) Oo;have O:=qax (Q:=Q) (k+1) (a:=i+1) (b:=n) h;have U:=qi4 (S:=stT Q k n) (qtv Q k Oo) (e:=leT Q (k+1) (i+1)-1) (by rw[qbm];omega);obtain⟨r,W⟩:=qmt Q k (a:=i+1) (b:=n) h
 grind [qbm,qjr]
def wiT(l:Dn):Nat:=wMx l l.length
def lvB(Q:Nat->Nat->Nat)(n k:Nat):LB:=
 UInt8.ofNat (wiT (nuT Q k n))::(qc2 (nuT Q k n) (wiT (nuT Q k n))++(if k=0 then[]else qab (qaw (stT Q (k-1) n)) (leT Q k n)))
def tlB(Q:Nat->Nat->Nat)(n:Nat):Nat->LB
 | 0=>[]
 | j+1=>lvB Q n (3-j)++tlB Q n j
def ql(Q:Nat->Nat->Nat)(n:Nat):LB:=
 varL (leT Q 0 n)++(varL (leT Q 1 n)++(varL (leT Q 2 n)++(varL (leT Q 3 n)++tlB Q n 4)))
structure TOk(Q:Nat->Nat->Nat)(n:Nat):Prop where
 nle:n<=1048576
 num:∀i k,i<n->k<4->(k≠0->1<=Q i k)/\Q i k<=4194304
 rise:∀i,0<i->i<n->∃k,k<4/\(∀j,j<k->Q i j=Q (i-1) j)/\Q (i-1) k<Q i k
theorem q60{l:Dn}{m:Nat}(h:∀x∈l,qae x<=m):∀i,wMx l i<=m
 | 0=>An _
 | i+1=>by
  have H:=q60 h i;rw[wMx]
  by_cases hi:i<l.length
  ·have:=h (l.getD i 0) (by rw[Am,zge hi];exact AP hi);omega
  ·rw[Am,AS Oo];have:qae (Option.getD (none:Option Nat) 0)=0:=qdb;omega
theorem q6z(l:Dn){i:Nat}:∀{n:Nat},i<n->qae (l.getD i 0)<=wMx l n
 | 0,h=>by omega
 | n+1,h=>by
  rw[wMx]
  by_cases e:i=n
  ·grind
  ·have:=q6z l (i:=i) (n:=n) Oo;omega
theorem qg7{Q:Nat->Nat->Nat}{k x:Nat}:∀{n:Nat},x∈nuT Q k n->∃i,i<n/\Q i k=x
 | 0,h=>by cases h
 | n+1,h=>by
  rw[nuT]at h
  split at h
  ·rcases AJ.1 h with h|h
   ·obtain⟨i,O,H⟩:=qg7 h;exact⟨i,by omega,H⟩
   ·exact⟨n,by omega,(Ac.1 h).symm⟩
  ·obtain⟨i,O,H⟩:=qg7 h;exact⟨i,by omega,H⟩
section
variable {Q:Nat->Nat->Nat} {n:Nat} (h:TOk Q n)
include h
theorem TOk.wi(H:k<4):wiT (nuT Q k n)<=23:=q60 (λx O=>by
 obtain⟨i,U,rfl⟩:=qg7 O;exact qes 23 _ (by have:=(h.num i k U H).2;omega) Od) _
theorem TOk.le(k:Nat):leT Q k n<=1048576:=A4 (qsr k n) h.nle
theorem TOk.n0:numL (ql Q n)=(leT Q 0 n,(varL (leT Q 0 n)).length,0):=qa0 (by have:=h.le 0;omega) _
theorem TOk.a1:vAt (ql Q n) 1=(varL (leT Q 0 n)).length:=by rw[vAt,vAt,B7,h.n0,Aq]
theorem TOk.n1:numL ((ql Q n).drop (vAt (ql Q n) 1))=(leT Q 1 n,(varL (leT Q 1 n)).length,0):=by
 rw[h.a1,ql,qf];exact qa0 (by have:=h.le 1;omega) _
theorem TOk.a2:vAt (ql Q n) 2=(varL (leT Q 0 n)).length+(varL (leT Q 1 n)).length:=by rw[vAt,h.n1,h.a1]
theorem TOk.n2:numL ((ql Q n).drop (vAt (ql Q n) 2))=(leT Q 2 n,(varL (leT Q 2 n)).length,0):=by
 rw[h.a2,ql,<-Ax,qf,qf];exact qa0 (by have:=h.le 2;omega) _
theorem TOk.a3:vAt (ql Q n) 3=(varL (leT Q 0 n)).length+(varL (leT Q 1 n)).length+(varL (leT Q 2 n)).length:=by rw[vAt,h.n2,h.a2]
theorem TOk.n3:numL ((ql Q n).drop (vAt (ql Q n) 3))=(leT Q 3 n,(varL (leT Q 3 n)).length,0):=by
 rw[h.a3,ql,<-Ax,<-Ax,qf,qf,qf];exact qa0 (by have:=h.le 3;omega) _
theorem TOk.a4:vAt (ql Q n) 4=(varL (leT Q 0 n)).length+(varL (leT Q 1 n)).length+(varL (leT Q 2 n)).length+(varL (leT Q 3 n)).length:=by rw[vAt,h.n3,h.a3]
theorem TOk.numOk(H:k<4):(numL ((ql Q n).drop (vAt (ql Q n) k))).2.2=0:=
 match k,H with
 | 0,_=>by rw[vAt,B7,h.n0]
 | 1,_=>by rw[h.n1]
 | 2,_=>by rw[h.n2]
 | 3,_=>by rw[h.n3]
theorem TOk.vNum{k:Nat}(H:k<4):vNum (ql Q n) k=leT Q k n:=
 match k,H with
 | 0,_=>by rw[Go.Proofs.YtccmcfpmknpccaaGreatDoor.vNum,vAt,B7,h.n0]
 | 1,_=>by rw[Go.Proofs.YtccmcfpmknpccaaGreatDoor.vNum,h.n1]
 | 2,_=>by rw[Go.Proofs.YtccmcfpmknpccaaGreatDoor.vNum,h.n2]
 | 3,_=>by rw[Go.Proofs.YtccmcfpmknpccaaGreatDoor.vNum,h.n3]
theorem TOk.cnt{k:Nat}:cnt (qaw (stT Q k n)) (leT Q (k+1) n)=leT Q k n:=by
 by_cases H:n=0
 ·subst H;rfl
 grind [qyw,qtv,qbm,qjr]
theorem TOk.lvLen:(lvB Q n k).length=1+(leT Q k n*wiT (nuT Q k n)+7)/8+(if k=0 then 0 else qa7 (leT Q k n) (leT Q (k-1) n)):=by
 rw[lvB,AM,zla,qby];show(leT Q k n*_+7)/8+_+1=_
 by_cases e:k=0
 ·grind
 ·obtain⟨m,rfl⟩:∃m,k=m+1:=⟨k-1,by omega⟩
  rw[Ab e,Ab e,qed,Bj,h.cnt,qcd,qbm];unfold qa7 qak qz qi;omega
theorem TOk.tail:k<=4->(ql Q n).drop (tvAt (ql Q n) k)=tlB Q n (4-k):=by
 induction k with
 | zero=>
  intro _;rw[tvAt,h.a4,ql,<-Ax,<-Ax,<-Ax,qf,qf,qf,qf]
 | succ k H=>
  intro hk;have H:=H Oo;obtain⟨j,U⟩:∃j,4-k=j+1:=⟨3-k,by omega⟩
  have O:3-j=k:=by omega
  rw[U,tlB,O]at H;have hw:=h.wi (k:=k) Oo;have W:((ql Q n).getD (tvAt (ql Q n) k) 0).toNat=wiT (nuT Q k n):=by
   have:(ql Q n).getD (tvAt (ql Q n) k) 0=((ql Q n).drop (tvAt (ql Q n) k)).getD 0 0:=by simp
   grind [lvB,qar]
  have Z:tvAt (ql Q n) (k+1)=tvAt (ql Q n) k+(lvB Q n k).length:=by
   rw[tvAt,W,h.vNum Oo,h.lvLen]
   by_cases e:k=0
   ·grind
   ·rw[Ab e,Ab e,h.vNum (k:=k-1) Oo];omega
  rw[Z,<-Ax,H,qf,show 4-(k+1)=j by omega]
theorem TOk.tw{k:Nat}(O:k<4):tw (ql Q n) k=wiT (nuT Q k n):=by
 have H:=h.tail (k:=k) Oo;obtain⟨j,U⟩:∃j,4-k=j+1:=⟨3-k,by omega⟩
 rw[U,tlB,show 3-j=k by omega]at H;have:(ql Q n).getD (tvAt (ql Q n) k) 0=((ql Q n).drop (tvAt (ql Q n) k)).getD 0 0:=by simp
 have W:=h.wi O;rw[Go.Proofs.YtccmcfpmknpccaaGreatDoor.tw,this,H,lvB];exact qar Oo
theorem TOk.tEnd{k:Nat}(H:k<4):tEnd (ql Q n) k=tvAt (ql Q n) k+1+(qc2 (nuT Q k n) (wiT (nuT Q k n))).length:=by
 rw[Go.Proofs.YtccmcfpmknpccaaGreatDoor.tEnd,h.tw H,h.vNum H,qby];rfl
theorem TOk.packed(O:k<4):qg (ql Q n) k=qc2 (nuT Q k n) (wiT (nuT Q k n)):=by
 have H:=h.tail (k:=k) Oo;obtain⟨j,U⟩:∃j,4-k=j+1:=⟨3-k,by omega⟩
 rw[U,tlB,show 3-j=k by omega]at H;rw[qg,h.tEnd O,BL,<-Ax,H,lvB,BF,List.drop_succ_cons,B7,Au,CS]
theorem TOk.bytes(H:k<4)(O:k≠0):qd (ql Q n) k=qab (qaw (stT Q (k-1) n)) (leT Q k n):=by
 have U:=h.tail (k:=k) Oo;obtain⟨j,W⟩:∃j,4-k=j+1:=⟨3-k,by omega⟩
 rw[W,tlB,show 3-j=k by omega]at U;obtain⟨m,rfl⟩:∃m,k=m+1:=⟨k-1,by omega⟩
 have Z:qa7 (leT Q (m+1) n) (leT Q m n)=(qab (qaw (stT Q m n)) (leT Q (m+1) n)).length:=by
  rw[qed,h.cnt,qcd,qbm];rfl
 rw[qd,qgg,Ab O,h.vNum H,h.vNum (k:=m+1-1) Oo,BL,Bj,Z,h.tEnd H,<-Ax,<-Ax,U,lvB,BF,List.drop_succ_cons,B7,Au,qf,Ab O,Bj,CS]
end
theorem qki(Q:Nat->Nat->Nat)(k:Nat){e:Nat}:∀{n:Nat},e<leT Q k n->∃i,i<n/\frU Q i k=true/\leT Q k i=e
 | 0,h=>by cases h
 | n+1,h=>by
  cases H:frU Q n k with
  | true=>
   rw[qaz H]at h
   by_cases W:e=leT Q k n
   ·exact⟨n,by omega,H,W.symm⟩
   ·obtain⟨i,Z,O,U⟩:=qki Q k (e:=e) (n:=n) Oo;exact⟨i,by omega,O,U⟩
  | false=>
   rw[qbb H]at h;obtain⟨i,Z,O,U⟩:=qki Q k h;exact⟨i,by omega,O,U⟩
theorem q6o(Q:Nat->Nat->Nat)(k:Nat){n:Nat}(h:i<n)(H:frU Q i (k+1)=true):(stT Q k n).getD (leT Q (k+1) i) false=frU Q i k:=by
 obtain⟨r,O⟩:=qmt Q k (a:=i+1) (b:=n) h
 grind [stT,qbm]
theorem qzl{n e:Nat}(h:∀i,i<n->Q i k<18446744073709551616)(H:e<leT Q k n):(nuT Q k n).getD e 0<2 ^ wiT (nuT Q k n):=by
 have U:=q6z (nuT Q k n) (i:=e) (n:=(nuT Q k n).length) H;have W:(nuT Q k n).getD e 0∈nuT Q k n:=by
  rw[Am,zge (show e<(nuT Q k n).length from H)];simp
 obtain⟨i,Z,h4⟩:=qg7 W;have O:=h i Z;rw[h4]at O;exact AE (ql8 O) (AQ Od U)
section
variable {Q:Nat->Nat->Nat} {n:Nat} (h:TOk Q n)
include h
theorem TOk.big(H:k<4):∀i,i<n->Q i k<18446744073709551616:=λi hi=>by have:=(h.num i k hi H).2;omega
theorem TOk.tX{k e:Nat}(H:k<4)(O:e<leT Q k n):tX (ql Q n) k e=(nuT Q k n).getD e 0:=by
 rw[Go.Proofs.YtccmcfpmknpccaaGreatDoor.tX,h.packed H,h.tw H];exact qjd O (qzl (h.big H) O)
theorem TOk.len(H:k<4):tvAt (ql Q n) k<(ql Q n).length/\tvAt (ql Q n) (k+1)<=(ql Q n).length:=by
 have O:=h.tail (k:=k) Oo;have W:=h.tail (k:=k+1) Oo;obtain⟨j,Z⟩:∃j,4-k=j+1:=⟨3-k,by omega⟩
 rw[Z,tlB]at O;rw[show 4-(k+1)=j by omega]at W;have U:=Ad List.length O;rw[zld,zla,show 3-j=k by omega,h.lvLen]at U;refine⟨by omega,?_⟩;rw[qgg,h.tEnd H,qby];show tvAt (ql Q n) k+1+(leT Q k n*_+7)/8+_<=_
 by_cases e:k=0
 ·grind
 ·rw[Ab e]at U|-;rw[h.vNum H,h.vNum (k:=k-1) Oo];omega
theorem TOk.tE:(tE (ql Q n)).2=0:=by
 have h1:(errF (tcF (ql Q n)) 4).2=0:=qbd λk H=>by
  have e0:numE (ql Q n) k 1048576=(0,0):=qg8 (h.numOk H) (by rw[h.vNum H];exact h.le k);rw[tcF,Ab (by simp_all),Ab];rintro⟨U,O⟩;obtain⟨m,rfl⟩:∃m,k=m+1:=⟨k-1,by omega⟩
  rw[Bj,h.vNum H,h.vNum (k:=m) Oo]at O;have W:=qn4 (Q:=Q) m n
  rcases O with O|O
  ·omega
  ·refine O ⟨λZ=>?_,λZ=>by omega⟩
   by_cases e:n=0
   ·subst e;rfl
   grind [qdz]
 have h2:(errF (tvF (ql Q n)) 4).2=0:=qbd λk H=>by
  obtain⟨U,O⟩:=h.len H;have W:=h.wi H;rw[tvF,Ab Oo,h.tw H,Ab Oo,Ab Oo]
 have h3:=Ad List.length (h.tail (k:=4) znr);rw[zld,Cw,tlB,C4]at h3;rw[Go.Proofs.YtccmcfpmknpccaaGreatDoor.tE,Ab Oo,Ab Oo,Ab Oo]
theorem TOk.vec(H:k+1<4):vOk (qd (ql Q n) (k+1))=true/\vN (qd (ql Q n) (k+1))=leT Q (k+1) n/\vM (qd (ql Q n) (k+1))=leT Q k n/\
  vD (qd (ql Q n) (k+1))=qaw (stT Q k n)/\voE (qd (ql Q n) (k+1))=(0,0):=by
 have U:=h.le (k+1);have hn:leT Q (k+1) n<=67108864:=by omega
 have hd:(qaw (stT Q k n)).length=upN (leT Q (k+1) n) 8:=by rw[qcd,qbm]
 have O:¬PadB (qaw (stT Q k n)) (leT Q (k+1) n):=by grind [qbm,qn2]
 rw[h.bytes H Oo,Bj];exact⟨qjz hn hd,qci hn,by rw[qeq hn,h.cnt],qgj hn hd,q5r hn hd O⟩
theorem TOk.bit{e:Nat}(H:k+1<4)(U:e<leT Q (k+1) n):bitN ((qd (ql Q n) (k+1)).drop 8) e=laT (stT Q k n) e:=by
 obtain⟨_,W,_,O,_⟩:=h.vec H;have Z:=Ad (λd=>bitN d e) O
 grind [vD,qit,upN,qfu,qbm]
theorem TOk.vcE{k:Nat}(H:k+1<4):vcE (ql Q n) (k+1)=(0,0):=by
 obtain⟨O,U,W,h4,Z⟩:=h.vec H;refine qacu ?_ (by rw[Z]) λg=>?_
 ·simp only[tVec,AB,decide_eq_true_eq];exact⟨⟨O,by rw[U,h.vNum H]⟩,by rw[W,Bj,h.vNum Oo]⟩
 ·rw[h.vNum H]at g|-;rw[h.bit H Oo,laT,Af (by rw[qbm];omega)]
theorem TOk.order{e:Nat}(hk:k<4)(O:0<e)(he:e<leT Q k n)(U:k=0\/bitN ((qd (ql Q n) k).drop 8) (e-1)≠1):(nuT Q k n).getD (e-1) 0<(nuT Q k n).getD e 0:=by
 obtain⟨i,W,Z,H⟩:=qki Q k he;have hi:0<i:=by
  rcases B0 i with e|e
  ·subst e;rw[<-H]at O;exact(CU 0 O).elim
  ·exact e
 have g1:=qkq (Q:=Q) k (i:=i) (n:=n) W;rw[qaz Z,Bj,H]at g1;have g2:=qkq (Q:=Q) k (i:=i-1) (n:=n) Oo;rw[BD hi,H]at g2;rw[g1,g2];obtain⟨m,r1,r2,r3⟩:=h.rise i hi W;have hm:k<=m:=by
  by_cases e0:k=0
  ·omega
  ·have U:=U.resolve_left e0;obtain⟨p,rfl⟩:∃p,k=p+1:=⟨k-1,by omega⟩
   rw[h.bit hk Oo,laT,qbm,Ab Oo,BD O,<-H,q6o Q p W Z]at U
   grind [qfr]
 grind [qx1]
end
theorem q1e{l:Dn}{w:Nat}(h:∀i,i<l.length->l.getD i 0<2 ^ w):unpN (qc2 l w) l.length w=l:=by
 apply List.ext_getElem
 all_goals grind [unpN,qjd]
section
variable {Q:Nat->Nat->Nat} {n:Nat} (h:TOk Q n)
include h
theorem TOk.lvE{k:Nat}(H:k<4):(lvE (ql Q n) k).2=0:=by
 refine qabt ?_ ?_ ?_ ?_
 ·refine BH λg=>?_;have U:=(qzq _ _ _).1 g;rw[h.packed H,h.tw H,h.vNum H]at U;exact qn8 _ _ U
 ·rw[h.packed H,h.tw H,h.vNum H,show leT Q k n=(nuT Q k n).length from rfl,q1e λi hi=>qzl (h.big H) hi];rfl
 ·by_cases e:k=0
  ·exact .inl e
  ·obtain⟨m,rfl⟩:∃m,k=m+1:=⟨k-1,by omega⟩
   exact .inr (by rw[h.vcE H])
 ·intro e O;rw[h.vNum H]at O;have W:(nuT Q k n).getD e 0∈nuT Q k n:=by
   rw[Am,zge (show e<(nuT Q k n).length from O)];simp
  obtain⟨i,Z,h2⟩:=qg7 W;obtain⟨h3,h4⟩:=h.num i k Z H;rw[h2]at h3 h4;rw[qabv]
  ·rw[h.tX H O];omega
  ·rintro⟨U,g2,g3⟩;rw[h.tX H O,h.tX H Oo]at g3;have:=h.order H U O g2;omega
theorem TOk.toE:(toE (ql Q n)).2=0:=qacn h.tE λ_ H=>h.lvE H
theorem TOk.fresh(hi:i<n):frU Q i 3=true:=by
 by_cases H:i=0
 ·grind [qfs]
 ·obtain⟨k,O,U,W⟩:=h.rise i Oo hi
  grind [frU]
theorem TOk.all:∀{i:Nat},i<=n->leT Q 3 i=i
 | 0,_=>rfl
 | i+1,hi=>by rw[qaz (h.fresh hi),TOk.all Oo]
theorem TOk.up(hi:i<n):∀{j:Nat},j<4->tUp (ql Q n) i j=leT Q (3-j) (i+1)-1
 | 0,_=>by rw[tUp,h.all Oo];rfl
 | j+1,hj=>by
  have O:=TOk.up hi (j:=j) Oo;obtain⟨k,H⟩:∃k,3-j=k+1:=⟨2-j,by omega⟩
  have U:=qjw h.toE (3-j) Oo Oo;have hp:=qdz (Q:=Q) (k+1) (i:=i+1) Oo;have hm:=qax (Q:=Q) (k+1) (a:=i+1) (b:=n) hi;rw[tUp,O,U.rank _ (by rw[h.vNum Oo,H];omega),H];obtain⟨_,W,_,Z,_⟩:=h.vec (k:=k) Oo;rw[<-qr7 _ _ (by rw[W];omega),Z,qjq Q k hi,show 3-(j+1)=k by omega]
theorem TOk.tNum{i k:Nat}(hi:i<n)(H:k<4):tNum (ql Q n) i k=Q i k:=by
 have O:=qdz (Q:=Q) k (i:=i+1) Oo;have U:=qax (Q:=Q) k (a:=i+1) (b:=n) hi;have W:=h.wi H;rw[Go.Proofs.YtccmcfpmknpccaaGreatDoor.tNum,h.up hi Oo,show 3-(3-k)=k by omega,qs6 _ _ _ (by rw[h.tw H];omega)];exact(h.tX H (e:=leT Q k (i+1)-1) Oo).trans (qkq k hi)
end
def bndT(Q:Nat->Nat->Nat)(k p:Nat):Nat->Nat
 | 0=>0
 | i+1=>if leT Q k (i+1)<=p then i+1 else bndT Q k p i
section
variable {Q:Nat->Nat->Nat}
theorem qc1(k p:Nat):∀n,bndT Q k p n<=n
 | 0=>Ao _
 | i+1=>by
  rw[bndT]
  split
  ·exact Ao _
  ·exact Nat.le_succ_of_le (qc1 k p i)
theorem qbk(k p:Nat):∀{n i:Nat},i<n->(i<bndT Q k p n↔leT Q k (i+1)<=p)
 | 0,_,h=>absurd h (Cf _)
 | n+1,i,h=>by
  rw[bndT]
  split
  ·rename_i g
   have:=qax (Q:=Q) k (a:=i+1) (b:=n+1) h;exact⟨λ_=>by omega,λ_=>h⟩
  ·rename_i g
   by_cases e:i=n
   ·subst e;have:=qc1 (Q:=Q) k p i;exact⟨λ_=>by omega,λh=>absurd h g⟩
   ·exact qbk k p Oo
theorem qfk(k:Nat){p q:Nat}(h:p<=q)(n:Nat):bndT Q k p n<=bndT Q k q n:=by
 rcases AH (bndT Q k q n) (bndT Q k p n)with g|g
 ·have H:=qc1 (Q:=Q) k p n;have O:=(qbk (Q:=Q) k p (n:=n) (i:=bndT Q k q n) Oo).1 g;have U:=(qbk (Q:=Q) k q (n:=n) (i:=bndT Q k q n) Oo).2 Oo;omega
 ·exact g
theorem qnd(k n:Nat):bndT Q k 0 n=0:=by
 rcases B0 (bndT Q k 0 n)with g|g
 all_goals grind [qc1,qbk,qdz]
theorem qlg(k:Nat){p n:Nat}(h:leT Q k n<=p):bndT Q k p n=n:=by
 cases n<;>grind [bndT]
def chT(Q:Nat->Nat->Nat)(n k p:Nat):Nat:=leT Q (k+1) (bndT Q k p n)
theorem qkd(k p n:Nat):bndT Q (k+1) (chT Q n k p) n=bndT Q k p n:=by
 have U:=qc1 (Q:=Q) k p n;have W:=qc1 (Q:=Q) (k+1) (chT Q n k p) n;refine Nat.le_antisymm ?_ ?_
 ·refine CM.1 λg=>?_;have H:=(qbk (Q:=Q) (k+1) (chT Q n k p) (n:=n) (i:=bndT Q k p n) Oo).1 g;have O:¬leT Q k (bndT Q k p n+1)<=p:=λe=>CU _ ((qbk (Q:=Q) k p (n:=n) (i:=bndT Q k p n) Oo).2 e)
  have Z:frU Q (bndT Q k p n) k=true:=by
   cases e:frU Q (bndT Q k p n) k with
   | true=>rfl
   | false=>
    exfalso
    have h6:=qbb (Q:=Q) e;have h7:=(qfr e).1;have h8:=(qbk (Q:=Q) k p (n:=n) (i:=bndT Q k p n-1) Oo).1 Oo
    grind
  grind [qaz,qnu,chT]
 ·refine CM.1 λg=>?_;have H:¬leT Q (k+1) (bndT Q (k+1) (chT Q n k p) n+1)<=chT Q n k p:=λe=>CU _ ((qbk (Q:=Q) (k+1) (chT Q n k p) (n:=n) (i:=bndT Q (k+1) (chT Q n k p) n) Oo).2 e)
  have O:=qax (Q:=Q) (k+1) (a:=bndT Q (k+1) (chT Q n k p) n+1) (b:=bndT Q k p n) g;exact H O
def agB(P:Nat->Int)(k x:Nat):Bool:=decide (P k<0)||decide (P k=(x:Int))
def agF(P:Nat->Int)(Q:Nat->Nat->Nat)(i:Nat):Nat->Nat->Bool
 | _,0=>true
 | k,m+1=>agB P k (Q i k)&&agF P Q i (k+1) m
def maT(P:Nat->Int)(Q:Nat->Nat->Nat)(k a b:Nat):Dn:=((List.range b).drop a).filter λi=>agF P Q i k (4-k)
theorem q0c(H:a<=b)(O:b<=c):(List.range c).drop a=(List.range b).drop a++(List.range c).drop b:=by
 have e:List.range c=List.range b++(List.range c).drop b:=by
  conv=>lhs;rw[<-BA b (List.range c)]
  simp_all
 grind
theorem q8d(P:Nat->Int)(k:Nat)(H:a<=b)(O:b<=c):maT P Q k a c=maT P Q k a b++maT P Q k b c:=by
 grind [maT,q0c]
theorem q8e(P:Nat->Int)(k:Nat)(h:b<=a):maT P Q k a b=[]:=by
 grind [maT,List.drop_eq_nil_of_le]
theorem qj3:i∈(List.range b).drop a↔a<=i/\i<b:=by
 rw[AW]
 constructor
 ·grind
 ·rintro⟨H,O⟩;exact⟨i-a,by simp_all⟩
theorem qfw(P:Nat->Int){p n:Nat}(W:k<4):maT P Q k (bndT Q k p n) (bndT Q k (p+1) n)=if agB P k ((nuT Q k n).getD p 0)=true then maT P Q (k+1) (bndT Q k p n) (bndT Q k (p+1) n)else[]:=by
 have hn:=qc1 (Q:=Q) k (p+1) n;have H:∀i∈(List.range (bndT Q k (p+1) n)).drop (bndT Q k p n),agF P Q i k (4-k)=(agB P k ((nuT Q k n).getD p 0)&&agF P Q i (k+1) (4-(k+1))):=by
  intro i hi;obtain⟨Z,U⟩:=qj3.1 hi;have h3:=(qbk (Q:=Q) k (p+1) (n:=n) (i:=i) Oo).1 U;have h4:¬leT Q k (i+1)<=p:=λe=>by have:=(qbk (Q:=Q) k p (n:=n) (i:=i) Oo).2 e;omega
  have O:=qkq (Q:=Q) k (i:=i) (n:=n) Oo;rw[show leT Q k (i+1)-1=p by omega]at O;rw[O,show 4-k=(4-(k+1))+1 by omega];rfl
 rw[maT,List.filter_congr H]
 split
 ·rename_i h;rw[h];rfl
 simp_all
end
section
variable {Q:Nat->Nat->Nat}
theorem qn3(k:Nat){a:Nat}:∀{b:Nat},a<=b->leT Q (k+1) a=leT Q (k+1) b->leT Q k a=leT Q k b
 | 0,h,_=>by simp_all
 | b+1,h,U=>by
  by_cases e:a=b+1
  ·rw[e]
  ·have W:=qax (Q:=Q) (k+1) (a:=a) (b:=b) Oo;cases H:frU Q b (k+1)with
   | true=>rw[qaz H]at U;omega
   | false=>
    have O:frU Q b k=false:=by
     cases O:frU Q b k with
     | true=>rw[qnu O (m:=k+1) (BY k)]at H;cases H
     | false=>rfl
    rw[qbb O];exact qn3 k Oo (by rw[U,qbb H])
theorem q5y{p n s:Nat}(hs:s<leT Q (k+1) n)(O:laT (stT Q k n) s=1)(hc:cnt (qaw (stT Q k n)) s=p):s+1=chT Q n k (p+1):=by
 obtain⟨i,hi,hf,he⟩:=qki Q (k+1) hs;have h1:=qaz (Q:=Q) hf;rw[he]at h1;have h2:=qjq Q k hi;rw[h1,Bj,hc]at h2;have h3:=qdz (Q:=Q) k (i:=i+1) Oo;have hp:leT Q k (i+1)=p+1:=by omega
 have U:=(qbk (Q:=Q) k (p+1) (n:=n) (i:=i) hi).2 Oo;have W:=qc1 (Q:=Q) k (p+1) n;have ad:=qax (Q:=Q) (k+1) (a:=i+1) (b:=bndT Q k (p+1) n) U;have ae:=qax (Q:=Q) (k+1) (a:=bndT Q k (p+1) n) (b:=n) W;rw[chT];unfold laT at O;rw[qbm]at O
 by_cases e:s+1=leT Q (k+1) n
 ·omega
 ·rw[Ab e]at O;have hg:(stT Q k n).getD (s+1) false=true:=by
   grind
  obtain⟨H,Z,aa,ab⟩:=qki Q (k+1) (e:=s+1) (n:=n) Oo;have h5:=q6o Q k Z aa;rw[ab,hg]at h5;have ac:i+1<=H:=by
   refine CM.1 λg=>?_;have:=qax (Q:=Q) (k+1) (a:=H) (b:=i) Oo;omega
  have h6:=qn3 (Q:=Q) k ac Oo;have h7:=qaz (Q:=Q) h5.symm;have h8:¬H<bndT Q k (p+1) n:=λg=>by grind [qbk]
  have h9:∀j,j<H->j<bndT Q k (p+1) n:=λj hj=>(qbk (Q:=Q) k (p+1) (n:=n) (i:=j) Oo).2 (by
   have:=qax (Q:=Q) k (a:=j+1) (b:=H) hj;omega)
  have af:bndT Q k (p+1) n=H:=by
   have:=h9 (H-1) Oo;omega
  grind
theorem q2k(k n:Nat):chT Q n k 0=0:=by rw[chT,qnd];rfl
theorem qh9(k n:Nat){p q:Nat}(h:p<=q):chT Q n k p<=chT Q n k q:=qax (k+1) (qfk k h n)
theorem qw3(k n p:Nat):chT Q n k p<=leT Q (k+1) n:=qax (k+1) (qc1 k p n)
theorem qaa6{n e:Nat}(U:e<leT Q (k+1) n):∃i,i<n/\frU Q i (k+1)=true/\leT Q (k+1) i=e/\leT Q k (i+1)=cnt (qaw (stT Q k n)) e+1:=by
 obtain⟨i,hi,H,O⟩:=qki Q (k+1) U;refine⟨i,hi,H,O,?_⟩;have W:=qaz (Q:=Q) H;rw[O]at W;have Z:=qjq Q k hi
 grind [qdz]
theorem qac2{n e p:Nat}(H:e<leT Q (k+1) n):cnt (qaw (stT Q k n)) e=p↔chT Q n k p<=e/\e<chT Q n k (p+1):=by
 obtain⟨i,hi,O,Z,h1⟩:=qaa6 H;have h2:=qaz (Q:=Q) O;have hd:∀p,(e<chT Q n k p↔cnt (qaw (stT Q k n)) e<p):=λp=>by
  have U:=qbk (Q:=Q) k p hi;rw[chT]
  constructor
  ·intro g;have:i<bndT Q k p n:=by
    refine Nat.not_le.1 λW=>?_;have:=qax (Q:=Q) (k+1) (a:=bndT Q k p n) (b:=i) W;omega
   omega
  ·intro g;have:=U.2 Oo;have:=qax (Q:=Q) (k+1) (a:=i+1) (b:=bndT Q k p n) this;omega
 grind
theorem TOk.sib{n e p:Nat}(h:TOk Q n)(H:k+1<4)(U:chT Q n k p<=e)(h2:e+1<chT Q n k (p+1)):(nuT Q (k+1) n).getD e 0<(nuT Q (k+1) n).getD (e+1) 0:=by
 have W:=qw3 (Q:=Q) k n (p+1);have Z:=(qac2 (Q:=Q) (k:=k) (n:=n) (e:=e) (p:=p) Oo).2 ⟨U,by omega⟩;refine h.order (k:=k+1) (e:=e+1) H Oo Oo (.inr λO=>?_);rw[Bj,h.bit H Oo]at O;have:=q5y (Q:=Q) (k:=k) (n:=n) (s:=e) (p:=p) Oo O Z;omega
theorem TOk.top{n e:Nat}(h:TOk Q n)(H:e+1<leT Q 0 n):(nuT Q 0 n).getD e 0<(nuT Q 0 n).getD (e+1) 0:=
 h.order (k:=0) (e:=e+1) Od Oo H (.inl rfl)
end
theorem q50{d H:LB}:∀{n:Nat},(∀t,t<n->bitN d t=bitN H t)->cnt d n=cnt H n
 | 0,_=>rfl
 | n+1,h=>by rw[cnt,cnt,q50 λt O=>h t Oo,h n Oo]
theorem q9t{s:Nat}(H:cnt d s<=k)(O:k<cnt d (s+1)):bitN d s=1/\cnt d s=k:=by
 grind [qgl,cnt]
section
variable {Q:Nat->Nat->Nat} {n:Nat} (h:TOk Q n)
include h
theorem TOk.cntD{s:Nat}(H:k+1<4)(O:s<=leT Q (k+1) n):Go.Proofs.YtccmcfpmknpccaaGreatDoor.cnt ((qd (ql Q n) (k+1)).drop 8) s=Go.Proofs.YtccmcfpmknpccaaGreatDoor.cnt (qaw (stT Q k n)) s:=
 q50 λt U=>by rw[h.bit H Oo,qfu (by rw[qbm];omega)]
theorem TOk.child{p s:Nat}(H:k+1<4)(O:s<leT Q (k+1) n)(Z:Go.Proofs.YtccmcfpmknpccaaGreatDoor.cnt ((qd (ql Q n) (k+1)).drop 8) s<=p)(h2:p<Go.Proofs.YtccmcfpmknpccaaGreatDoor.cnt ((qd (ql Q n) (k+1)).drop 8) (s+1)):s+1=chT Q n k (p+1):=by
 obtain⟨U,W⟩:=q9t Z h2;rw[h.bit H O]at U;rw[h.cntD H Oo]at W;exact q5y O U W
theorem TOk.ones(H:k+1<4):Go.Proofs.YtccmcfpmknpccaaGreatDoor.cnt ((qd (ql Q n) (k+1)).drop 8) (leT Q (k+1) n)=leT Q k n:=by
 rw[h.cntD H znr];exact h.cnt
theorem TOk.sibs{p:Nat}(H:k+1<4):∀{b:Nat},chT Q n k p<=a->a<b->b<chT Q n k (p+1)->(nuT Q (k+1) n).getD a 0<(nuT Q (k+1) n).getD b 0
 | 0,_,O,_=>absurd O (Cf _)
 | b+1,U,O,W=>by
  have Z:=h.sib (k:=k) (e:=b) (p:=p) H Oo W
  by_cases e:a=b
  ·simp_all
  ·have:=TOk.sibs H (b:=b) U Oo Oo;omega
theorem TOk.tops:∀{b:Nat},a<b->b<leT Q 0 n->(nuT Q 0 n).getD a 0<(nuT Q 0 n).getD b 0
 | 0,H,_=>absurd H (Cf _)
 | b+1,H,O=>by
  have U:=h.top (e:=b) O
  by_cases e:a=b
  ·simp_all
  ·have:=TOk.tops (b:=b) Oo Oo;omega
end
section
variable {Q:Nat->Nat->Nat} {P:Nat->Int} {n:Nat}
def lvM(P:Nat->Int)(Q:Nat->Nat->Nat)(n k a b:Nat):Dn:=maT P Q k (bndT Q k a n) (bndT Q k b n)
theorem qi5(h:b<=a):lvM P Q n k a b=[]:=q8e P k (qfk k h n)
theorem qma(H:a<=b)(O:b<=c):lvM P Q n k a c=lvM P Q n k a b++lvM P Q n k b c:=q8d P k (qfk k H n) (qfk k O n)
theorem qp7{p:Nat}(H:k+1<4):lvM P Q n k p (p+1)=if agB P k ((nuT Q k n).getD p 0)=true then lvM P Q n (k+1) (chT Q n k p) (chT Q n k (p+1))else[]:=by
 grind [lvM,qfw,qkd]
theorem qig{k a:Nat}(O:k<4):∀{b:Nat},(∀e,a<=e->e<b->agB P k ((nuT Q k n).getD e 0)=false)->lvM P Q n k a b=[]
 | 0,_=>qi5 Oo
 | b+1,h=>by
  by_cases H:a<=b
  ·rw[qma H (BY b),qig O λe U W=>h e U Oo,Bs,lvM,qfw P O,h b H (Ca b)];rfl
  ·exact qi5 Oo
theorem qsx{e x:Nat}(O:k<4)(hx:P k=(x:Int))(hr:∀i j,a<=i->i<j->j<b->(nuT Q k n).getD i 0<(nuT Q k n).getD j 0)(h1:a<=e)(h2:e<=b)(U:∀i,a<=i->i<e->(nuT Q k n).getD i 0<x)(aa:e<b->x<=(nuT Q k n).getD e 0):
  lvM P Q n k a b=if e<b/\(nuT Q k n).getD e 0=x then lvM P Q n k e (e+1)else[]:=by
 have W:∀i,(nuT Q k n).getD i 0≠x->agB P k ((nuT Q k n).getD i 0)=false:=(by grind [agB])
 split
 ·rename_i h
  rw[qma (b:=e) h1 h2,qig O λi Z H=>W i (by have:=U i Z H;omega),Bs,qma (b:=e+1) (BY e) h.1,qig (a:=e+1) O λi Z H=>W i (by have:=hr e i h1 Oo H;omega),By]
 ·rename_i h
  refine qig O λi Z H=>W i λhi=>?_
  rcases AH i e with g|g
  ·grind
  ·have h3:x<=(nuT Q k n).getD e 0:=(by omega)
   rcases C9 g with g|g
   all_goals grind
theorem TOk.bnd3(h:TOk Q n){p:Nat}(H:p<=n):bndT Q 3 p n=p:=by
 have O:=qc1 (Q:=Q) 3 p n;refine Nat.le_antisymm ?_ ?_
 ·refine CM.1 λg=>?_;have:=(qbk (Q:=Q) 3 p (n:=n) (i:=p) Oo).1 g;rw[h.all Oo]at this;omega
 ·refine CM.1 λg=>?_;have:=(qbk (Q:=Q) 3 p (n:=n) (i:=bndT Q 3 p n) Oo).2 (by rw[h.all Oo];exact g);omega
theorem TOk.leaf(h:TOk Q n){e:Nat}(H:e<n):lvM P Q n 3 e (e+1)=if agB P 3 ((nuT Q 3 n).getD e 0)=true then[e]else[]:=by
 rw[lvM,qfw P Od,h.bnd3 Oo,h.bnd3 Oo]
 split
 ·rw[maT,Cg,BI Js,AZ Js,Bs];rfl
 ·rfl
theorem TOk.lvM_all(_:TOk Q n):lvM P Q n 0 0 (leT Q 0 n)=maT P Q 0 0 n:=by
 grind [lvM,qnd,qlg]
end
def bsr(p:Nat->Bool):Nat->Nat->Nat->Nat
 | 0,a,_=>a
 | f+1,a,b=>if a<b then(if p ((a+b)/2)=true then bsr p f a ((a+b)/2)else bsr p f ((a+b)/2+1) b)else a
theorem qke{p:Nat->Bool}:∀{f a b:Nat},a<=b->a<=bsr p f a b/\bsr p f a b<=b
 | 0,a,b,h=>⟨Ao _,h⟩
 | f+1,a,b,h=>by
  rw[bsr]
  split
  ·split
   ·have:=qke (p:=p) (f:=f) (a:=a) (b:=(a+b)/2) Oo;omega
   ·have:=qke (p:=p) (f:=f) (a:=(a+b)/2+1) (b:=b) Oo;omega
  ·omega
theorem qh7{p:Nat->Bool}{n:Nat}(U:∀i j,i<=j->j<n->p i=true->p j=true):∀{f a b:Nat},a<=b->b<=n->b-a<=f->(∀i,i<a->p i=false)->(∀i,b<=i->i<n->p i=true)->
  (∀i,i<bsr p f a b->p i=false)/\(∀i,bsr p f a b<=i->i<n->p i=true)
 | 0,a,b,h,_,W,H,O=>by
  obtain rfl:a=b:=by omega
  exact⟨H,O⟩
 | f+1,a,b,h,hn,W,H,O=>by
  rw[bsr]
  split
  ·rename_i Z
   split
   ·rename_i hm
    exact qh7 U Oo Oo Oo H (by grind)
   ·rename_i hm
    refine qh7 U Oo hn Oo (λi hi=>?_) O
    grind
  grind
abbrev WS:=(Nat->Nat)×(Nat->Nat)
abbrev WR:=List (Nat×(Nat->Nat))×WS
def updN(f:Nat->Nat)(k v:Nat):Nat->Nat:=λj=>if j=k then v else f j
def goL(f:Nat->WS->WR):Nat->Nat->WS->WR
 | 0,_,s=>([],s)
 | m+1,i,s=>((f i s).1++(goL f m (i+1) (f i s).2).1,(goL f m (i+1) (f i s).2).2)
structure LvD where
 N:Nat->Nat
 nu:Nat->Nat->Nat
 ch:Nat->Nat->Nat×Nat
def LvD.sr(T:LvD)(k lo hi:Nat)(x:Int):Nat:=lo+bsr (λi=>decide (x<=(T.nu k (lo+i):Int))) (hi-lo) 0 (hi-lo)
def LvD.win(T:LvD)(P:Nat->Int)(k lo hi:Nat):Nat×Nat:=
 if P k<0 then(lo,hi)else if T.sr k lo hi (P k)<hi/\(T.nu k (T.sr k lo hi (P k)):Int)=P k then(T.sr k lo hi (P k),T.sr k lo hi (P k)+1)else(T.sr k lo hi (P k),T.sr k lo hi (P k))
def lvS(T:LvD)(P:Nat->Int)(f:Nat->WS->WR)(k lo hi:Nat)(s:WS):WR:=
 if min hi (T.N k)<=max lo (s.1 k)then([],s)else
 goL (λi s=>f i (s.1,updN s.2 k (T.nu k i))) ((T.win P k (max lo (s.1 k)) (min hi (T.N k))).2-(T.win P k (max lo (s.1 k)) (min hi (T.N k))).1) (T.win P k (max lo (s.1 k)) (min hi (T.N k))).1 (updN s.1 k (min hi (T.N k)),s.2)
def lvG(T:LvD)(P:Nat->Int):Nat->Nat->Nat->Nat->WS->WR
 | 0,k,lo,hi,s=>lvS T P (λi s=>([(i,s.2)],s)) k lo hi s
 | d+1,k,lo,hi,s=>lvS T P (λi s=>lvG T P d (k+1) (T.ch k i).1 (T.ch k i).2 s) k lo hi s
theorem LvD.sr_le(T:LvD)(k:Nat)(x:Int)(h:lo<=hi):lo<=T.sr k lo hi x/\T.sr k lo hi x<=hi:=by
 grind [qke,LvD.sr]
theorem LvD.win_le(T:LvD)(P:Nat->Int)(k:Nat)(h:lo<=hi):lo<=(T.win P k lo hi).1/\(T.win P k lo hi).1<=(T.win P k lo hi).2/\(T.win P k lo hi).2<=hi:=by
 have:=T.sr_le k (P k) h
 grind [LvD.win]
theorem LvD.sr_spec(T:LvD)(k:Nat)(x:Int)(h:lo<=hi)(O:∀i j,lo<=i->i<j->j<hi->T.nu k i<T.nu k j):
  (∀i,lo<=i->i<T.sr k lo hi x->(T.nu k i:Int)<x)/\(T.sr k lo hi x<hi->x<=(T.nu k (T.sr k lo hi x):Int)):=by
 have U:=qh7 (p:=λi=>decide (x<=(T.nu k (lo+i):Int))) (n:=hi-lo) (λi j W hj H=>by
  have H:=BB H;refine AF ?_
  by_cases e:i=j
  ·simp_all
  ·have:=O (lo+i) (lo+j) Oo Oo Oo;omega) (f:=hi-lo) (a:=0) (b:=hi-lo) Oo Oo Oo Oo Oo
 unfold LvD.sr;refine⟨λi Z h2=>?_,λZ=>?_⟩
 ·have:=of_decide_eq_false (U.1 (i-lo) Oo)
  simp_all
 grind
section
variable {Q:Nat->Nat->Nat} {n:Nat}
def dT(Q:Nat->Nat->Nat)(n k a:Nat):Nat->Nat
 | 0=>a
 | j+1=>chT Q n (k+j) (dT Q n k a j)
theorem qpo(k:Nat){a b:Nat}(h:a<=b):∀j,dT Q n k a j<=dT Q n k b j
 | 0=>h
 | j+1=>qh9 _ _ (qpo k h j)
theorem qll(k a:Nat):∀j,dT Q n (k+1) (chT Q n k a) j=dT Q n k a (j+1)
 | 0=>rfl
 | j+1=>by rw[dT,qll k a j,dT,show k+1+j=k+(j+1)by omega,dT,dT]
theorem qx7{P:Nat->Int}{k lo hi:Nat}{f:Nat->WS->WR}{Inv:Nat->WS->Prop}(h:∀i s,lo<=i->i<hi->Inv i s->(f i s).1.map (·.1)=lvM P Q n k i (i+1)/\Inv (i+1) (f i s).2):
  ∀(m i:Nat) (s:WS),lo<=i->i+m<=hi->Inv i s->(goL f m i s).1.map (·.1)=lvM P Q n k i (i+m)/\Inv (i+m) (goL f m i s).2
 | 0,i,s,_,_,H=>⟨(qi5 znr).symm,H⟩
 | m+1,i,s,O,W,H=>by
  obtain⟨Z,U⟩:=h i s O Oo H;obtain⟨g3,g4⟩:=qx7 h m (i+1) _ Oo Oo U
  grind [goL,qma]
structure CanD(T:LvD)(Q:Nat->Nat->Nat)(n:Nat):Prop where
 N:∀k,k<4->T.N k=leT Q k n
 nu:∀k e,k<4->e<leT Q k n->T.nu k e=(nuT Q k n).getD e 0
 ch:∀k i,k+1<4->i<leT Q k n->T.ch k i=(chT Q n k i,chT Q n k (i+1))
theorem qzd(_:TOk Q n){T:LvD}(hT:CanD T Q n){P:Nat->Int}{s:WS}{f:Nat->WS->WR}(W:k<4)(H:a<=b)(hb:b<=leT Q k n)(hr:∀i j,a<=i->i<j->j<b->(nuT Q k n).getD i 0<(nuT Q k n).getD j 0)(hp:∀j,k+j<4->s.1 (k+j)<=dT Q n k a j)(hf:∀i s,a<=i->i<b->agB P k ((nuT Q k n).getD i 0)=true->(∀j,k+(j+1)<4->s.1 (k+(j+1))<=dT Q n k i (j+1))->(f i s).1.map (·.1)=lvM P Q n k i (i+1)/\(f i s).2.1 k=s.1 k/\∀j,k+(j+1)<4->(f i s).2.1 (k+(j+1))<=dT Q n k (i+1) (j+1)):
  (lvS T P f k a b s).1.map (·.1)=lvM P Q n k a b/\∀j,k+j<4->(lvS T P f k a b s).2.1 (k+j)<=dT Q n k b j:=by
 have aa:s.1 k<=a:=hp 0 W;rw[lvS,hT.N k W,Nat.max_eq_left aa,Bd hb]
 split
 ·grind [qi5]
 obtain⟨w1,w2,w3⟩:=T.win_le P k H;have ad:∀e,e<b->T.nu k e=(nuT Q k n).getD e 0:=λe he=>hT.nu k e W Oo
 have O:lvM P Q n k a b=lvM P Q n k (T.win P k a b).1 (T.win P k a b).2/\∀i,(T.win P k a b).1<=i->i<(T.win P k a b).2->agB P k ((nuT Q k n).getD i 0)=true:=by
  by_cases ac:P k<0
  ·grind [LvD.win,agB]
  ·obtain⟨s1,s2⟩:=T.sr_le k (P k) H;obtain⟨s3,s4⟩:=T.sr_spec k (P k) H (by grind);obtain⟨x,hx⟩:∃x:Nat,P k=(x:Int):=⟨(P k).toNat,by omega⟩
   have ae:=qsx (P:=P) (n:=n) W hx hr s1 s2 (by grind) (by grind)
   grind [LvD.win,agB,qi5]
 obtain⟨U,ab⟩:=O;obtain⟨u,eu⟩:∃u,u=T.win P k a b:=⟨_,rfl⟩
 rw[<-eu]at w1 w2 w3 U ab|-;have Z:=qx7 (Q:=Q) (n:=n) (P:=P) (k:=k) (lo:=u.1) (hi:=u.2) (f:=λi s=>f i (s.1,updN s.2 k (T.nu k i))) (Inv:=λi s=>s.1 k=b/\∀j,k+(j+1)<4->s.1 (k+(j+1))<=dT Q n k i (j+1))
  (by grind) (u.2-u.1) u.1 (updN s.1 k b,s.2) Oo Oo ⟨by grind [updN],λj hj=>by
    show updN s.1 k b (k+(j+1))<=_;rw[updN,Ab Oo];exact A4 (by grind) (qpo k w1 (j+1))⟩
 rw[show u.1+(u.2-u.1)=u.2 by omega]at Z;refine⟨by rw[Z.1,U],λj hj=>?_⟩;cases j with
 | zero=>rw[Bq,Z.2.1];exact Ao b
 | succ j=>exact A4 (Z.2.2 j hj) (qpo k w3 (j+1))
theorem qsy{T:LvD}{P:Nat->Int}{s:WS}{f:Nat->WS->WR}(O:m≠k)(U:∀i s,(f i s).2.1 m=s.1 m):(lvS T P f k a b s).2.1 m=s.1 m:=by
 have H:∀c i (s:WS),(goL (λi s=>f i (s.1,updN s.2 k (T.nu k i))) c i s).2.1 m=s.1 m:=by
  intro c
  induction c with
  | zero=>intro i s;rfl
  | succ c W=>grind [goL]
 grind [lvS,updN]
theorem qsw{T:LvD}{P:Nat->Int}{m:Nat}:∀{d k a b:Nat} {s:WS},m<k->(lvG T P d k a b s).2.1 m=s.1 m
 | 0,k,a,b,s,h=>qsy Oo λ_ _=>rfl
 | d+1,k,a,b,s,h=>qsy Oo λi s=>qsw (d:=d) Oo
theorem qzb(h:TOk Q n){T:LvD}(U:CanD T Q n){P:Nat->Int}:∀{d k a b:Nat} {s:WS},k+d=3->a<=b->b<=leT Q k n->(∀i j,a<=i->i<j->j<b->(nuT Q k n).getD i 0<(nuT Q k n).getD j 0)->
  (∀j,k+j<4->s.1 (k+j)<=dT Q n k a j)->(lvG T P d k a b s).1.map (·.1)=lvM P Q n k a b/\∀j,k+j<4->(lvG T P d k a b s).2.1 (k+j)<=dT Q n k b j
 | 0,k,a,b,s,W,H,Z,hr,hp=>by
  obtain rfl:k=3:=by omega
  have hn:leT Q 3 n=n:=h.all Oo;refine qzd h U Oo H Z hr hp λi s h1 h2 O _=>⟨?_,rfl,Oo⟩
  rw[h.leaf Oo,Af O];rfl
 | d+1,k,a,b,s,W,H,Z,hr,hp=>by
  refine qzd h U Oo H Z hr hp λi s h1 h2 O hj=>?_;have aa:=U.ch k i Oo Oo;have ih:=qzb h U (P:=P) (d:=d) (k:=k+1) (a:=chT Q n k i) (b:=chT Q n k (i+1)) (s:=s) Oo (qh9 k n (BY i)) (qw3 k n _) (λx y g1 g2 g3=>h.sibs Oo g1 g2 g3)
   (λj ab=>by rw[qll,show k+1+j=k+(j+1)by omega];exact hj j Oo)
  rw[aa];refine⟨by rw[ih.1,qp7 Oo,Af O],qsw Oo,λj ab=>?_⟩;have:=ih.2 j Oo;rw[qll,show k+1+j=k+(j+1)by omega]at this;exact this
theorem q8c(h:TOk Q n){T:LvD}(H:CanD T Q n){P:Nat->Int}{q:Nat->Nat}:(lvG T P 3 0 0 (leT Q 0 n) (λ_=>0,q)).1.map (·.1)=maT P Q 0 0 n:=by
 rw[<-h.lvM_all];exact(qzb h H (d:=3) (k:=0) (a:=0) (b:=leT Q 0 n) (s:=(λ_=>0,q)) rfl Oo Oo (λi j _ O U=>h.tops O U) (λj W=>An _)).1
end
def seB(B:LB)(x:Nat):Nat:=if x<vM B then bsr (λi=>decide (x<qfa B (i+1))) (vN B-1) 0 (vN B-1)+1 else 0
def chB(l:LB)(k i:Nat):Nat×Nat:=
 if tVec l (k+1)=true then((if 0<i then seB (qd l (k+1)) (i-1)else 0),max (if 0<i then seB (qd l (k+1)) (i-1)else 0) (seB (qd l (k+1)) i))else(0,0)
def treD(l:LB):LvD:=⟨vNum l,λk e=>numP (qg l k) (tw l k) e,chB l⟩
theorem q0o{B:LB}(x:Nat)(h:vM B<=vN B):seB B x<=vN B:=by
 grind [seB,qke]
theorem qr2(h:∀k,vNum l k<=1048576\/4<=k)(H:k+1<4)(O:tVec l (k+1)=true->vM (qd l (k+1))<=vN (qd l (k+1))):(chB l k i).1<=1048576/\(chB l k i).2<=1048576:=by
 grind [chB,tVec,q0o]
section
variable {Q:Nat->Nat->Nat} {n:Nat} (h:TOk Q n)
include h
theorem TOk.seB{p:Nat}(H:k+1<4)(W:p<leT Q k n):Go.Proofs.YtccmcfpmknpccaaGreatDoor.seB (qd (ql Q n) (k+1)) p=chT Q n k (p+1):=by
 obtain⟨h1,Z,h3,h4,h5⟩:=h.vec H;have hl:=qjw h.toE (k+1) Oo Oo;have O:=h.ones H;rw[Go.Proofs.YtccmcfpmknpccaaGreatDoor.seB,h3,Af W,Z];have U:0<leT Q (k+1) n:=by
  refine Nat.pos_of_ne_zero λe=>?_;rw[e]at O;have:leT Q k n=0:=O.symm;omega
 obtain⟨N,eN⟩:∃N,N=leT Q (k+1) n-1:=⟨_,rfl⟩
 have aa:∀i,i<=N+1->qfa (qd (ql Q n) (k+1)) i=Go.Proofs.YtccmcfpmknpccaaGreatDoor.cnt ((qd (ql Q n) (k+1)).drop 8) i:=λi hi=>hl.rank i (by rw[h.vNum H];omega)
 rw[<-eN];have hb:=qke (p:=λi=>decide (p<qfa (qd (ql Q n) (k+1)) (i+1))) (f:=N) (a:=0) (b:=N) (An _);have hs:=qh7 (p:=λi=>decide (p<qfa (qd (ql Q n) (k+1)) (i+1))) (n:=N) (by grind [Nat.lt_of_lt_of_le,qef]) (f:=N) (a:=0) (b:=N) Oo Oo Oo Oo Oo;obtain⟨s,es⟩:∃s,s=bsr (λi=>decide (p<qfa (qd (ql Q n) (k+1)) (i+1))) N 0 N:=⟨_,rfl⟩
 rw[<-es]at hb hs|-;refine h.child H Oo ?_ ?_
 ·cases s with
  | zero=>exact An _
  | succ s=>
   grind
 grind
theorem TOk.canD:CanD (treD (ql Q n)) Q n:=by
 refine⟨λk H=>h.vNum H,λk e H O=>?_,λk i H hi=>?_⟩
 ·show numP _ _ _=_;rw[qs6 _ _ _ (by have:=h.wi H;rw[h.tw H];omega)];exact h.tX H O
 ·have U:=qjw h.toE (k+1) Oo Oo;have W:(if 0<i then Go.Proofs.YtccmcfpmknpccaaGreatDoor.seB (qd (ql Q n) (k+1)) (i-1)else 0)=chT Q n k i:=by
   split
   ·rw[h.seB H Oo,show i-1+1=i by omega]
   grind [q2k]
  show chB _ k i=_;rw[chB,Af U.tvec,W,h.seB H hi,Nat.max_eq_right (qh9 k n (BY i))]
theorem TOk.mtch{P:Nat->Int}{q:Nat->Nat}:(lvG (treD (ql Q n)) P 3 0 0 (Go.Proofs.YtccmcfpmknpccaaGreatDoor.vNum (ql Q n) 0) (λ_=>0,q)).1.map (·.1)=maT P Q 0 0 n:=by
 rw[h.vNum Od];exact q8c h h.canD
end
set_option maxHeartbeats 8000000
set_option maxRecDepth 100000
theorem qrx(p:Nat->Bool)(f a:Nat):bsr p f a a=a:=by
 cases f<;>grind [bsr]
theorem qqn(l:LB)(A:oA)(c b k:Nat)(w:Dc)(hS:SlAt encB 1 w A l)(hc:l.length<=c)(hv:vOk l=true)(hb:w.heap[b]?=some (vecO 381 (.slice A l.length c) (vN l) (vM l)))(h1:1<=vN l)(hn:vN l<=67108864):
  Gv Do 280 [pp b,ii k,.func (.func 224) #[pp b] #[]] w λr Z=>r=ii (bsr (λi=>decide (k<qfa l (i+1))) (vN l-1) 0 (vN l-1):Nat)/\Ext w Z:=by
 obtain⟨p,ep⟩:∃p:Nat->Bool,p=λi=>decide (k<qfa l (i+1)):=⟨_,rfl⟩
 rw[<-ep];refine ze Tryz.func280 Tryz.ntmps280 ?_;refine DrawV.free Jk Jk (zw ?_);(iterate 3 (refine zd ?_));refine zf ?_ (by intro wd hd;(conv=>whnf);refine LoadV.own (Ext.get (Ext.trans (Ext.drew xr) hd) hb) rfl ?_;(conv=>whnf);exact xq);(iterate 3 (refine zd ?_));intro w1 U;have U:=(Ext.refl w).drew.trans U;(conv=>whnf);refine qm (λs:Nat×Nat=>[(1,ii k),(2,.func (.func 224) #[pp b] #[]),(7,ii s.1),(8,ii s.2)])
  (λs Z=>s.1<=s.2/\s.2<=vN l-1/\(∃f,s.2-s.1<=f/\bsr p f s.1 s.2=bsr p (vN l-1) 0 (vN l-1))/\Ext w Z) (λs=>s.2-s.1) (0,vN l-1) ⟨rfl,rfl,rfl,Ad (Value.int .i64) (by show((vN l:Nat):Int)-1=((vN l-1:Nat):Int);omega),trivial⟩ (by grind) ?_
 rintro⟨x,y⟩ w2 ab ⟨g1,g2,⟨f,hf,O⟩,W⟩;dsimp only at g1 g2 hf O|-;(conv=>whnf);refine zC (λ_=>zu ?_) (λ_=>zu ?_)
 ·obtain⟨h,eh⟩:∃h,h=(x+y)/2:=⟨_,rfl⟩
  obtain⟨f',rfl⟩:∃f',f=f'+1:=⟨f-1,by omega⟩
  rw[bsr,Af Oo,<-eh]at O;rw[show((x:Int)+(y:Int))/2=((h:Nat):Int)by omega,show((h:Nat):Int)+1=((h+1:Nat):Int)by omega];refine zcv (qtf l A c b (h+1) w2 (hS.ext W) hc hv (W.get hb) Oo) ?_;rintro r w3 ⟨rfl,aa⟩;have W:=W.trans aa;cases H:p h
  ·rw[Ab (by rw[H];decide)]at O;rw[ep]at H;have H:=of_decide_eq_false H;refine zu ?_;refine⟨(h+1,y),fq,(by grind),by omega⟩
  ·rw[Af H]at O;rw[ep]at H;have H:=BB H;refine zu ?_;refine⟨(x,h),fq,(by grind),by omega⟩
 grind [qrx]
theorem qfc(l:LB)(A:oA)(c b k:Nat)(w:Dc)(O:SlAt encB 1 w A l)(U:l.length<=c)(W:vOk l=true)(H:w.heap[b]?=some (vecO 381 (.slice A l.length c) (vN l) (vM l)))(hm:vM l<=vN l)(hn:vN l<=67108864):
  Gv Do 210 [pp b,ii k] w λr Z=>r=ii ((seB l k:Int)-1)/\Ext w Z:=by
 refine ze Tryz.func210 Tryz.ntmps210 ?_;refine zv ?_;refine LoadV.own H rfl (zw ?_);refine zt ?_;refine zC (λ_=>zw ?_) (λ_=>zw ?_)
 ·grind [seB,Ext.refl]
 ·refine zcv (qqn l A c b k w O U W H Oo hn) ?_;rintro r w1 ⟨rfl,aa⟩;conv=>whnf
  grind [seB]
theorem qox(g:FuncId)(W Z c3:Dh)(n:Nat)(p:Nat->Bool)(w:Dc)(hn:n<=4194304)(hg:∀i H,i<n->Ext w H->Gv Do g [ii i,W,Z,c3] H λr aa=>r=.bool (p i)/\Ext H aa):
  Gv Do 208 [ii n,.func (.func g) #[] #[W,Z,c3]] w λr H=>r=ii (bsr p n 0 n:Nat)/\Ext w H:=by
 refine ze Tryz.func208 Tryz.ntmps208 ?_;refine qm (λs:Nat×Nat=>[(1,.func (.func g) #[] #[W,Z,c3]),(5,ii s.1),(6,ii s.2)])
  (λs H=>s.1<=s.2/\s.2<=n/\(∃f,s.2-s.1<=f/\bsr p f s.1 s.2=bsr p n 0 n)/\Ext w H) (λs=>s.2-s.1) (0,n) fq (by grind [Ext.refl]) ?_
 rintro⟨a,b⟩ w1 ac ⟨h1,h2,⟨f,hf,U⟩,he⟩;dsimp only at h1 h2 hf U|-;(conv=>whnf);refine zC (λ_=>zu ?_) (λ_=>zu ?_)
 ·obtain⟨h,eh⟩:∃h,h=(a+b)/2:=⟨_,rfl⟩
  obtain⟨f',rfl⟩:∃f',f=f'+1:=⟨f-1,by omega⟩
  rw[bsr,Af Oo,<-eh]at U;rw[<-Int.natCast_add];refine V.Wit.shrN 1 rfl Od ?_;rw[Nat.pow_one,<-eh];refine zu ?_;refine zcv (hg h w1 Oo he) ?_;rintro r w2 ⟨rfl,ab⟩;have he:=he.trans ab;cases O:p h
  ·rw[Ab (by rw[O];decide)]at U;refine zu ?_;refine⟨(h+1,b),fq,(by grind),by omega⟩
  ·rw[Af O]at U;refine zu ?_;refine⟨(a,h),fq,(by grind),by omega⟩
 grind [qrx]
theorem qo3(b off i lo H W:Nat)(x:Int)(Z b5 b7:Nat)(P:oA)(p:LB)(w:Dc)(h1:w.cell? ⟨b,off+1,none⟩=some (ii H))(h5:w.cell? ⟨b,off+5,none⟩=some (.slice P p.length W))(hP:SlAt encB 1 w P p)(hw:H<=23)(hi:lo+i<=4194304)(g4:w.cell? ⟨Z,0,none⟩=some (.pointer (some ⟨b,off,none⟩)))(g5:w.cell? ⟨b5,0,none⟩=some (ii lo))(g7:w.cell? ⟨b7,0,none⟩=some (ii x)):
  Gv Do 209 [ii i,pp Z,pp b5,pp b7] w λr w'=>r=.bool (decide (x<=(numP p H (lo+i):Int)))/\Ext w w':=by
 refine ze Tryz.func209 Tryz.ntmps209 ?_;refine DrawV.free Jk Jk (zw ?_);refine zf ?_ (by intro H hd;(conv=>whnf);refine LoadV.of (Ext.cell (Ext.trans (Ext.drew xr) hd) g4) ?_;(conv=>whnf);exact xq);refine zf ?_ (by intro H hd;(conv=>whnf);refine LoadV.of (Ext.cell (Ext.trans (Ext.drew xr) hd) g5) ?_;(conv=>whnf);exact xq);refine zd ?_;refine zd ?_;apply zsd (ii (numP p H (lo+i)))
 ·intro O hd;(conv=>whnf);rw[show((lo:Int)+(i:Int))=((lo+i:Nat):Int)by omega];refine zcv (qbt b off (lo+i) H W P p O (((Ext.refl w).drew.trans hd).cell h1) (((Ext.refl w).drew.trans hd).cell h5) (hP.ext ((Ext.refl w).drew.trans hd)) hw hi) ?_
  simp_all
 (conv=>whnf);refine zf ?_ (by intro H hd;(conv=>whnf);refine LoadV.of (Ext.cell (Ext.trans (Ext.drew xr) hd) g7) ?_;(conv=>whnf);exact xq);refine zd ?_;refine zd ?_;intro w2 U;(conv=>whnf);exact⟨rfl,(Ext.refl w).drew.trans U⟩
theorem qff(b off lo hi O cp:Nat)(x:Int)(P:oA)(p:LB)(w:Dc)(h1:w.cell? ⟨b,off+1,none⟩=some (ii O))(h5:w.cell? ⟨b,off+5,none⟩=some (.slice P p.length cp))(hP:SlAt encB 1 w P p)(hw:O<=23)(ad:lo<=hi)(ae:hi<=4194304):
  Gv Do 128 [.pointer (some ⟨b,off,none⟩),ii lo,ii hi,ii x] w λr w'=>r=ii (lo+bsr (λi=>decide (x<=(numP p O (lo+i):Int))) (hi-lo) 0 (hi-lo):Nat)/\Ext w w':=by
 obtain⟨q,eq⟩:∃q:Nat->Bool,q=λi=>decide (x<=(numP p O (lo+i):Int)):=⟨_,rfl⟩
 rw[<-eq];have hq:=qke (p:=q) (f:=hi-lo) (a:=0) (b:=hi-lo) (An _);refine ze Tryz.func128 Tryz.ntmps128 ?_;refine znm (Mem.nil w) λb4 w1 H=>zw ?_;refine znm H λb5 w2 H=>zw ?_;refine znm H λb7 Z H=>zw ?_;have c7:Z.cell? ⟨b7,0,none⟩=some (ii x):=by rw[qa (H.get mh)];rfl
 have c5:Z.cell? ⟨b5,0,none⟩=some (ii lo):=by rw[qa (H.get (zmc mh))];rfl
 have c4:Z.cell? ⟨b4,0,none⟩=some (.pointer (some ⟨b,off,none⟩)):=by rw[qa (H.get (zmc (zmc mh)))];rfl
 refine DrawV.free Jk Jk (zw ?_);refine zf ?_ (by intro O hd;(conv=>whnf);refine LoadV.of (Ext.cell (Ext.trans (Ext.drew xr) hd) c5) ?_;(conv=>whnf);exact xq);refine zd ?_;refine zf ?_ (by intro O hd;(conv=>whnf);refine LoadV.of (Ext.cell (Ext.trans (Ext.drew xr) hd) c5) ?_;(conv=>whnf);exact xq);refine zd ?_;refine zd ?_;apply zsd (ii (bsr q (hi-lo) 0 (hi-lo):Nat))
 ·intro aa hd;have hx:=(Ext.refl Z).drew.trans hd;have U:=H.ext.trans hx;(conv=>whnf);rw[show((hi:Int)-(lo:Int))=((hi-lo:Nat):Int)by omega];have ab:=qox 209 (pp b4) (pp b5) (pp b7) (hi-lo) q aa Oo (λi w' af W=>by
   rw[eq];exact qo3 b off i lo O cp x b4 b5 b7 P p w' ((U.trans W).cell h1) ((U.trans W).cell h5) (hP.ext (U.trans W)) hw Oo ((hx.trans W).cell c4) ((hx.trans W).cell c5) ((hx.trans W).cell c7))
  refine zcv (ab) ?_
  simp_all
 (conv=>whnf);refine zd ?_;refine zd ?_;intro w4 ac;(conv=>whnf);exact⟨Js,H.ext.trans ((Ext.refl Z).drew.trans ac)⟩
theorem qch(b:Nat)(l:LB)(k i:Nat)(w:Dc)(h:TreeAt w b l)(hk:k+1<4)(hi:i<=1048576)(H:tVec l (k+1)=true->vM (qd l (k+1))<=vN (qd l (k+1))):
  Gv Do 131 [pp b,ii k,ii i] w λr w'=>r=.tuple #[ii (chB l k i).1,ii (chB l k i).2]/\Ext w w':=by
 obtain⟨P,cp,S,cs,V,hc,hP,hS,hl,hv⟩:=(h.lv (k+1) Oo).h;have hn:=h.n (k+1) hk;refine ze Tryz.func131 Tryz.ntmps131 ?_;refine zv ?_;refine IdxV.at_ (k+1) Oo Oo (zw ?_);refine LoadV.cellsE hc 7 (by rw[show tsz Do 244=8 from by kernel_rfl];show 0+0+(k+1)*8+7=8*(k+1)+7;omega) rfl (zw ?_)
 rcases hv with⟨hx|hx,rfl⟩|⟨_,ac,vb,rfl,aa⟩
 ·omega
 ·refine zu ?_
  grind [chB,Ext.refl]
 have Z:=ac;simp only[tVec,AB,decide_eq_true_eq]at Z;obtain⟨⟨O,ab⟩,U⟩:=Z;have H:=H ac;obtain⟨F,eF⟩:∃F:Nat,F=if 0<i then seB (qd l (k+1)) (i-1)else 0:=⟨_,rfl⟩
 have ae:chB l k i=(F,max F (seB (qd l (k+1)) i)):=by grind [chB]
 rw[ae];have af:=q0o (B:=qd l (k+1)) (i-1) H;have ag:=q0o (B:=qd l (k+1)) i H;have hF:F<=vN (qd l (k+1)):=by grind
 (conv=>whnf);refine zt ?_;refine zC (λ_=>zw ?_) (λ_=>zw ?_)
 ·refine LoadV.cellsE hc 7 (by rw[show tsz Do 244=8 from by kernel_rfl];show 0+0+(k+1)*8+7=8*(k+1)+7;omega) rfl (zu ?_);rw[show((i:Int)-1)=((i-1:Nat):Int)by omega];refine zcv (qfc (qd l (k+1)) S cs vb (i-1) w hS hl O (by rw[ab,U];exact aa) H Oo) ?_;rintro r w1 ⟨rfl,W⟩;refine zu ?_;refine LoadV.cellsE (hc.ext W) 7 (by rw[show tsz Do 244=8 from by kernel_rfl];show 0+0+(k+1)*8+7=8*(k+1)+7;omega) rfl (zw ?_);refine zcv (qfc (qd l (k+1)) S cs vb i w1 (hS.ext W) hl O (by rw[ab,U];exact W.get aa) H Oo) ?_;rintro r w2 ⟨rfl,ad⟩;refine zu ?_;refine V.Fall.max2 rfl rfl rfl λm hm=>?_;subst hm;(conv=>whnf);refine⟨?_,W.trans ad⟩
  grind
 ·refine LoadV.cellsE hc 7 (by rw[show tsz Do 244=8 from by kernel_rfl];show 0+0+(k+1)*8+7=8*(k+1)+7;omega) rfl (zw ?_);refine zcv (qfc (qd l (k+1)) S cs vb i w hS hl O (by rw[ab,U];exact aa) H Oo) ?_;rintro r w2 ⟨rfl,ad⟩;refine zu ?_;refine V.Fall.max2 rfl rfl rfl λm hm=>?_;subst hm;conv=>whnf
  simp_all
open Go.RowKit
namespace V
section
variable {P:De} {n:Nat} {r:Option Nat}
theorem q9l{row:String}{args:Dp}(h:Rows P row args w R):RowsIn (Fr r) 0 P row args w R:=λc cs _=>by
 obtain⟨v,H,O,s⟩:=h c cs;exact⟨v,H,O,(stepsIn_wide.2 s:StepsIn (Machine.fenced P Fence.wide) P _ _)⟩
theorem qk9(O:r=none\/∀c,o.op≠.defer c){a:Act}{K U:Act->Dk}{Q Q2:Exit->Act->Dk}(hQ:∀e a w,Q e a w->e=.normal)(hK:∀a w,K a w->U { a with defers:=a.defers++ds } w)(h:o.wp P a w K Q):o.wpIn (Fr r) 0 P { a with defers:=a.defers++ds } w U Q2:=by
 refine⟨λ_ _=>trivial,?_⟩;have W:({ a with defers:=a.defers++ds }:Act).eval=a.eval:=by rfl
 have hs:o.semAt (Fr r).round a.eval=execOp a.eval o:=by
  rcases O with rfl|O
  ·rfl
  grind [Oper.semAt_eq]
 rw[W,hs];unfold Oper.wp at h;have hp:∀v,({ a with defers:=a.defers++ds }:Act).put o.dst v={ a.put o.dst v with defers:=(a.put o.dst v).defers++ds }:=λv=>by cases o.dst<;>rfl
 generalize(execOp a.eval o).run P w=aa at h;cases aa with
 | ok nx w'=>
  cases nx with
  | value v=>show U _ _;rw[hp];exact hK _ _ h
  | skip=>show U _ _;rw[hp];exact hK _ _ h
  | defer d=>
   have Z:=hK _ _ h;show U _ _;cases hd:o.dst with
   | none=>rw[hd]at Z;exact Z
   | some t=>rw[hd]at Z;exact Z
  | enter f args=>
   refine⟨(by grind [Fr]),qck.2 (Calls.mono h λe ab W=>?_)⟩;cases e with
   | returned v=>simp_all
   | panicked ch=>grind
   | outgrown=>obtain⟨a',w',hq⟩:=W;grind
  | row row args=>
   refine⟨(by grind [Fr]),q9l (Rows.mono h λv ab W=>?_)⟩
   simp_all
  | _=>exact h.elim
 | halt x w'=>
  cases x with
  | panic v=>have:=hQ _ _ _ h;cases this
  | _=>exact h.elim
def qzk(ops:List Oper):Bool:=ops.all λo=>match o.op with
 | .defer _=>false
 | _=>true
theorem qs5{ops:List Oper}(h:qzk ops=true)(H:o∈ops):∀c,o.op≠.defer c:=by
 intro c e;have:=BU.1 h o H
 simp_all
theorem qrq{ops:Array Oper}(W:r=none\/qzk ops.toList=true){ds:Dq}{Q Q2:Exit->Act->Dk}(Z:∀e a w,Q e a w->e=.normal)(hk:∀a w,Q .normal a w->Q2 .normal { a with defers:=a.defers++ds } w):∀(fuel:Nat) (O:Array Bool) (a:Act) (w:Dc),wpAny P .any ops Q fuel O a w->
  wpAnyIn (Fr r) 0 P .any ops Q2 fuel O { a with defers:=a.defers++ds } w
 | 0,_,_,_,h=>⟨h.1,hk _ _ h.2⟩
 | fuel+1,O,a,w,h=>by
  refine⟨λhr=>hk _ _ (h.1 hr),λi hi=>?_⟩;have U:=h.2 i hi;unfold wpOp at U;unfold wpOpIn;cases ho:ops[i]? with
  | none=>rw[ho]at U;exact qrq W Z hk fuel _ _ _ U
  | some o=>
   rw[ho]at U;dsimp only at U|-;have aa:r=none\/∀c,o.op≠.defer c:=W.imp_right λhn=>qs5 hn (Array.mem_toList_iff.2 (CH ho))
   split
   ·rename_i hw
    rw[Af hw]at U
    rcases U with U|⟨_,a',w',hq⟩
    ·exact qk9 aa Z (λa w h=>qrq W Z hk fuel _ a w h) U
    ·have:=Z _ _ _ hq;cases this
   ·rename_i hw
    rw[Ab hw]at U;refine⟨λ_ _=>trivial,?_⟩;have hp:({ a with defers:=a.defers++ds }:Act).put o.dst undef={ a.put o.dst undef with defers:=(a.put o.dst undef).defers++ds }:=by cases o.dst<;>rfl
    rw[hp];exact qrq W Z hk fuel _ _ _ U
theorem DrawW.any{Q:QW}(hm:P.follows .mixedOrders=true)(W:r=none\/qzk ops.toList=true)(h:AnyV P n ops (λO Z=>Q .normal O ds Z) ρ w):DrawW P n r id ops Q ρ ds w:=by
 refine⟨λa ha hd=>wpIn_region_any hm ?_⟩;have e:a={ ({ a with defers:=[] }:Act)with defers:=({ a with defers:=[] }:Act).defers++ds }:=by subst hd;rfl
 have h1:=qrq (r:=r) (ds:=ds) (Q2:=qdq n Q) W (by grind) (λU Z h=>?_) _ _ _ _ (h.h { a with defers:=[] } ha)
 ·rw[<-e]at h1;exact h1
 ·obtain⟨_,O,hs,hq⟩:=h;have aa:U.defers++ds=ds:=by rw[hs.defers];rfl
  refine⟨O,?_,?_⟩
  ·show St n O { U with defers:=[] };have:({ U with defers:=[] }:Act)=U:=by have:=hs.defers;cases U;grind
   grind
  grind
structure BeginA(J:Dl->Dk)(l:Nat)(ob ob':Obj)(w:Dc)(ds:Dq)(K:Dk):Prop where
 d:ds=[]
 h:∃Y,J ((l,ob)::Y) w/\∀w2,J ((l,ob')::Y) w2->K w2
theorem qz9{f:Operand}{ps:Array Tmp}{Q:QW}{Φ:Dk}{xs:List Dm}(hf:ev ρ f=.func (.func gf) #[] lb.toArray)(he:qcl P gf=true)(aj:SeqC P gf lb xs Φ)(ar:ps.toList.all (Nat.blt · n)=true)(au:∀x∈xs,x.length=ps.size)(J:Nat->Dl->Dk)(Jx:Code->Nat->Dl->Dk)(hJ:∀k,Carr (J k))(O:∀c k,Carr (Jx c k))(hw:∀k X w,J k X w->Φ w)(h0:J 0 [] w)(ae:∀l D ob af k x X w1,xs[k]?=some x->J k ((l,ob)::(D,.deferred (some []))::X) w1->
   qdv P n (some l) assign (q3v λak av aw=>BeginA (J k) l ob af aw av
    (λw2=>qdv P n (some l) body (qtm (J (k+1) ((l,af)::(D,.deferred (some []))::X)) (λc=>Jx c k ((l,af)::(D,.deferred (some []))::X))) ak [] w2)) (qos ps.toList x ρ) [] w1)(ag:∀D w',J xs.length [(D,.deferred (some []))] w'->Q .normal ρ ({ target:=.collected D,args:=#[] }::ds) w')(ah:∀D c k w',k<xs.length->Jx c k [(D,.deferred (some []))] w'->qacj c Q ρ ({ target:=.collected D,args:=#[] }::ds) w'):RangeW P n none f ps assign body Q ρ ds w:=by
 refine⟨λa ha hd=>?_⟩;subst hd;refine wpIn_rangeFunc ?_;intro fn ax;obtain⟨U,H⟩:∃U:LoopState->Option Code->Loop,U=λst pe=>{ state:=st,pending:=pe,fn,tmps:=a.tmps,params:=ps,assign,body,defers:=w.heap.size }:=⟨_,rfl⟩
 obtain⟨W1,an⟩:∃W1,(w.alloc (.deferred (some []))).alloc (.loop (U .ready none))=W1:=⟨_,rfl⟩
 have hD:=(hJ 0).new (.deferred (some [])) h0;have hL:=(hJ 0).new (.loop (U .ready none)) hD;rw[an,World.size_alloc]at hL;refine⟨w.heap.size+1,[{ target:=.collected w.heap.size,args:=#[] }],W1,{ target:=.fn (.func gf) lb.toArray,args:=#[.func (.yield (w.heap.size+1)) #[] #[]] },W1,gf,
  #[.func (.yield (w.heap.size+1)) #[] #[]]++lb.toArray,W1,?_,?_,λ_ _=>trivial,?_,(by grind [Fr]),?_⟩
 ·rw[<-an,H];exact run_enterLoop_outer _ _ _ _ _
 ·have:a.eval f=.func (.func gf) #[] lb.toArray:=by rw[ha.eval,hf]
  simp only[resolve,this];simp[go_sem]
 ·grind [invoke,qce]
 ·have ea:#[Value.func (.yield (w.heap.size+1)) #[] #[]]++lb.toArray=(Value.func (.yield (w.heap.size+1)) #[] #[]::lb).toArray:=by simp
  rw[ea];refine qck.2 ((aj (w.heap.size+1) (λk X W=>J k (X++[(w.heap.size+1,.loop (U .ready none)),(w.heap.size,.deferred (some []))]) W)
   (λk X W=>∃c,Jx c k (X++[(w.heap.size+1,.loop (U .done (some c))),(w.heap.size,.deferred (some []))]) W) W1
   (λk=>(hJ k).tail _) (λk=>Carr.any λc=>(O c k).tail _) (by grind) hL ?_).2.mono ?_)
  ·intro k x X W hx hk;replace hk:=(hJ k).perm hk As;have hl:=(hJ k).get hk mh;have hy:=run_yield (P:=P) (args:=x.toArray) hl (by rw[H];simpa using au x (zmg hx));rw[H]at hy;refine⟨⟨fn,_,assign,body,hy,roundIn_of_wpIn ax ?_⟩⟩;have h1:=ae (w.heap.size+1) w.heap.size _ (.loop { U .ready none with state:=.busy }) k x X W hx hk;have hz:(ps.zip x.toArray).foldl (λt (p,v)=>t.setIfInBounds p v) a.tmps=(ps.toList.zip x).foldl (λt (p,v)=>t.setIfInBounds p v) a.tmps:=by
    rw[<-Array.foldl_toList];simp
   have ay:Sw n (qos ps.toList x ρ) { tmps:=(ps.zip x.toArray).foldl (λt (p,v)=>t.setIfInBounds p v) a.tmps,defers:=[] }:=by
    rw[hz];exact qts _ _ _ _ ar ha
   refine Go.wpIn_mono (F:=Fr (some (w.heap.size+1))) (qeg assign _ _ _ _ h1 _ ay rfl) λe a1 w1 Z=>?_;obtain⟨ak,ao,Z⟩:=Z;cases e with
   | normal=>
    obtain⟨az,Y,hY,ai⟩:=Z;have ai:=ai _ ((hJ k).set (.loop { U .ready none with state:=.busy }) hY);refine⟨_,run_beginRound ((hJ k).get hY mh) (by rw[H]),?_⟩;refine Go.wpIn_mono (F:=Fr (some (w.heap.size+1))) (qeg body _ _ _ _ ai _ ao az) λe a2 w2 Z=>?_;obtain⟨a3,a0,Z⟩:=Z;cases e with
    | normal=>
     refine⟨_,_,run_endRound none ((hJ _).get Z mh),_,rfl,.inl ⟨rfl,?_⟩⟩;have:=(hJ (k+1)).perm ((hJ (k+1)).set (.loop (U .ready none)) Z) (As (l₁:=[_,_]));rw[H]at this|-;exact this
    | ret=>
     refine⟨_,_,run_endRound (some .ret) ((O _ _).get Z mh),_,rfl,.inr ⟨rfl,.ret,?_⟩⟩;have:=(O _ k).perm ((O _ k).set (.loop (U .done (some .ret))) Z) (As (l₁:=[_,_]));rw[H]at this|-;exact this
    | exit id=>
     refine⟨_,_,run_endRound (some (.exit id)) ((O _ _).get Z mh),_,rfl,.inr ⟨rfl,.exit id,?_⟩⟩;have:=(O _ k).perm ((O _ k).set (.loop (U .done (some (.exit id)))) Z) (As (l₁:=[_,_]));rw[H]at this|-;exact this
    | goto t=>
     refine⟨_,_,run_endRound (some (.goto t)) ((O _ _).get Z mh),_,rfl,.inr ⟨rfl,.goto t,?_⟩⟩;have:=(O _ k).perm ((O _ k).set (.loop (U .done (some (.goto t)))) Z) (As (l₁:=[_,_]));rw[H]at this|-;exact this
    | panic ch=>exact Z.elim
    | outgrown=>exact Z.elim
   | ret=>exact Z.elim
   | exit id=>exact Z.elim
   | goto t=>exact Z.elim
   | panic ch=>exact Z.elim
   | outgrown=>exact Z.elim
  ·rintro e W2 ⟨v,rfl,h|⟨k,hk,c,h⟩⟩
   ·have hl:=(hJ _).get h mh;have:=run_endLoop (P:=P) hl (by rw[H];simp);rw[H]at this;exact⟨none,_,this,ρ,ha,ag _ _ ((hJ _).drop ((hJ _).set _ h))⟩
   ·have hl:=(O _ _).get h mh;have:=run_endLoop (P:=P) hl (by rw[H];simp);rw[H]at this;refine⟨some c,_,this,?_⟩;have hs:=ah _ c k _ hk ((O _ _).drop ((O _ _).set (.loop { U .done (some c)with state:=.exhausted }) h));rw[H]at hs;cases c with
    | ret=>exact Go.wpIn_ret ⟨ρ,ha,hs⟩
    | exit id=>exact Go.wpIn_exit ⟨ρ,ha,hs⟩
    | goto t=>exact Go.wpIn_goto ⟨ρ,ha,hs⟩
    | _=>exact hs.elim
def qzf(D:Nat):Deferred:={ target:=.collected D,args:=#[] }
def q8f(D:Nat):Nat×Obj:=(D,.deferred (some []))
theorem qhp{O:Func}{R:Di}{ρ:Dj}{J:Dl->Dk}(U:Carr J)(Z:∀W,J [] W->resV O.results ρ W O R P n):
  ∀(H:Dn) (w:Dc),J (H.map q8f) w->qkn P n O R ρ (H.map qzf) w
 | [],w,h=>Z w h
 | D::H,w,h=>by
  show LeaveV P n O R ρ (qzf D::H.map qzf) w;refine LeaveV.mark (U.get h mh) λW hw=>?_;subst hw;exact qhp U Z H _ (U.drop (U.set _ h))
theorem Carr.setM(h:Carr J){A:Dl}{o:Obj}(H:Obj)(k:J (A++(b,o)::B) w):J (A++(b,H)::B) (setO w b H):=
 h.perm (h.set H (h.perm k Bk)) Bk.symm
theorem LeaveV.marks{H:Func}(U:Carr J)(W:∀O,J [] O->resV H.results ρ O H R P n){D:Nat}{Ds:Dn}(h:J ((D::Ds).map q8f) w):
  LeaveV P n H R ρ (qzf D::Ds.map qzf) w:=qhp U W (D::Ds) w h
theorem Carr.dropM(h:Carr J){A:Dl}{x:Nat×Obj}(k:J (A++x::B) w):J (A++B) w:=h.drop (h.perm k Bk)
theorem qor{v:Dh}{t:Df}(h:w.heap[b]?=some (.cells cs t fr)):w.setCell ⟨b,off,none⟩ v=setO w b (.cells (cs.setIfInBounds off v) t fr):=by
 unfold World.setCell setO
 congr 1
 grind
theorem StoreV.carr(O:Carr J){A:Dl}{t:Df}{v:Dh}{K:Dk}(h:J (A++(b,.cells cs t)::B) w)(W:off<cs.size)(Z:qb5 v=true)(hk:∀H,J (A++(b,.cells (cs.setIfInBounds off v) t)::B) H->K H):StoreV w b off v K:=by
 have U:=O.get h (Aa _ mh);refine StoreV.own U W Z λH hw=>hk H ?_
 rw[hw,qor U];exact O.setM _ h
theorem NewV.carr(O:Carr J){X:Dl}{o:Obj}{K:Nat->Dk}(h:J X w)(U:∀b H,J ((b,o)::X) H->K b H):NewV w o K:=
 ⟨λb H W Z=>by subst W Z;exact U _ _ (O.new o h)⟩
theorem LoadV.carr(H:Carr J){X:Dl}{t:Df}{v:Dh}{K:Dh->Prop}(h:J X w)(O:(b,Obj.cells cs t fr)∈X)(U:cs[off]?=some v)(W:K v):LoadV w b off K:=
 LoadV.own (H.get h O) U W
end
end V
namespace V
section
variable {P:De} {n:Nat} {r:Option Nat}
def qoe(ops:List Oper):Nat->Dn->Bool
 | 0,_=>true
 | j+1,S=>S.contains j&&qoe ops j ((match getL ops j with|some o=>qau o|none=>[])++S)
def q93(m:Nat)(ops:List Oper):Bool:=
 Nat.blt m ops.length&&qoe ops m (match getL ops m with|some o=>qau o|none=>[])&&(List.range ops.length).all λj=>
  match getL ops j with
  | none=>true
  | some o=>(qau o).all (λk=>Nat.blt k j)&&(Nat.ble j m||(qau o).contains (j-1))&&(Nat.ble m j||(match o.guard with|none=>true|some (g,_)=>Nat.blt g m))
structure TailP(m:Nat)(ops:Array Oper):Prop where
 msz:m<ops.size
 reach:∀o,ops[m]?=some o->qoe ops.toList m (qau o)=true
 lt:∀(j:Nat) (o:Oper),ops[j]?=some o->∀k∈qau o,k<j
 next:∀(j:Nat) (o:Oper),ops[j]?=some o->m<j->j-1∈qau o
 guard:∀(j:Nat) (o:Oper) (g:Nat) (b:Bool),ops[j]?=some o->j<m->o.guard=some (g,b)->g<m
theorem q4y(h:q93 m ops.toList=true):TailP m ops:=by
 simp only[q93,AB]at h;obtain⟨⟨W,h2⟩,Z⟩:=h;have hm:m<ops.size:=by simpa using W
 have O:∀(j:Nat) (o:Oper),ops[j]?=some o->(qau o).all (λk=>Nat.blt k j)=true/\(Nat.ble j m||(qau o).contains (j-1))=true/\(Nat.ble m j||(match o.guard with|none=>true|some (g,_)=>Nat.blt g m))=true:=λj o H=>by
  have U:=(BO.1 H).1;have:=BU.1 Z j (B6.2 (by simpa using U))
  grind [qat]
 refine⟨hm,λo H=>?_,λj o H k hk=>?_,λj o H U=>?_,λj o g b H U hg=>?_⟩
 ·grind [qat]
 ·simp_all
 ·have:=(O j o H).2.1;rw[CQ]at this
  rcases this with h|h
  ·have:=Cd h;omega
  simp_all
 ·have:=(O j o H).2.2;rw[hg,CQ]at this
  rcases this with h|h
  ·have:=Cd h;omega
  simp_all
theorem qtj{ops:Array Oper}{p:Nat->Prop}(H:∀(j:Nat) (o:Oper),ops[j]?=some o->p j->∀k∈qau o,p k):∀(j:Nat) (S:Dn),qoe ops.toList j S=true->(∀k∈S,p k)->∀k,k<j->p k
 | 0,_,_,_,k,O=>by omega
 | j+1,S,h,U,k,O=>by
  rw[qoe,AB]at h;have W:p j:=(by grind)
  by_cases e:k=j
  ·simp_all
  ·refine qtj H j _ h.2 (λi hi=>?_) k Oo
   grind [qat]
theorem runK{K:Dj->Dq->Dk}{a:Act}(hi:ops[i]?=some o)(hg:Region.wanted o (yielded ops a.tmps)=true)(Z:Sw n ρ a)(hd:a.defers=ds)(h:runW P n r o K ρ ds w)(hk:∀O H U W,Sw n O U->U.defers=H->K O H W->K' U W):wpOpIn (Fr r) 0 P ops Q' i K' a w:=by
 unfold wpOpIn;rw[hi];dsimp only;rw[Af hg];refine q6g Z hd h λv H W hp=>?_;obtain⟨O,h1,h2,h3⟩:=Z.put H hp
 grind
theorem q0t{K:Dj->Dq->Dk}{a:Act}(hi:ops[i]?=some o)(hg:Region.wanted o (yielded ops a.tmps)=false)(ha:Sw n ρ a)(hd:a.defers=ds)(h:qqy n o K ρ ds w)(hk:∀H O W Z,Sw n H W->W.defers=O->K H O Z->K' W Z):wpOpIn (Fr r) 0 P ops Q' i K' a w:=by
 unfold wpOpIn;rw[hi];dsimp only;rw[Ab (by rw[hg];simp)];refine⟨λ_ _=>trivial,?_⟩;obtain⟨H,h1,h2,h3⟩:=ha.put ds h;have e:({ a with defers:=ds }:Act)=a:=by subst hd;rfl
 grind
theorem regK{ops:List Oper}{Q:Dj->Dq->Dk}{H:List Oper}(hi:ops.toArray[i]?=some o){a:Act}(W:Sw n ρ a)(hd:a.defers=ds)(h:regW P n r ops Q (o::H) ρ ds w)(ae:∀O U Z w',Sw n O Z->Z.defers=U->regW P n r ops Q H O U w'->K' Z w'):wpOpIn (Fr r) 0 P ops.toArray Q' i K' a w:=by
 unfold regW at h
 split at h
 ·grind [runK,Region.wanted]
 ·rename_i j ad hg
  split at h
  ·grind [qat,q0t,Region.wanted,yielded]
  ·rename_i oj hj
   split at h
   ·grind [q0t,qat,Region.wanted,yielded]
   ·rename_i d aa
    cases hn:Nat.blt d n<;>rw[hn]at h
    ·exact h.elim
    ·have ab:d<n:=by simpa using hn
     have hy:=W.yield hj aa ab;simp only[cond_true]at h
     split at h
     ·rename_i b hb
      rw[hb]at hy;cases b
      ·have h:=h.f rfl;have ac:Sw n _ a:=St.same W hb
       grind [runK,Region.wanted,q0t]
      ·have h:=h.t rfl;have ac:Sw n _ a:=St.same W hb
       grind [q0t,Region.wanted,runK]
     grind [q0t,Region.wanted]
def qgt(i c:Nat):Array Bool:=(List.replicate i true++List.replicate c false).toArray
theorem qlp(d:Bool)(h:j<i):(qgt i c).getD j d=true:=by
 simp_all[qgt,Ba]
theorem q2v(h:i<=j):(qgt i c).getD j false=false:=by
 rw[qgt,BM,Az,Bf (by simpa using h),List.getElem?_replicate]
 grind
theorem q2u(h:i<=j)(H:j<i+c):(qgt i c).getD j true=false:=by
 simp_all[qgt]
theorem qxi(i c:Nat):(qgt i (c+1)).setIfInBounds i true=qgt (i+1) c:=by
 rw[<-Br,BQ];show(List.replicate i true++List.replicate (c+1) false).set i true=List.replicate (i+1) true++List.replicate c false
 grind [List.replicate_succ']
theorem qoi{m:Nat}{ops:Array Oper}(U:TailP m ops){Q:QW}:∀(c i:Nat) (ρ:Dj) (ds:Dq) (a:Act) (w:Dc),m<=i->i+c=ops.size->Sw n ρ a->a.defers=ds->regW P n r ops.toList (Q .normal) (ops.toList.drop i) ρ ds w->
  wpAnyIn (Fr r) 0 P .any ops (qdq n Q) c (qgt i c) a w
 | 0,i,ρ,ds,a,w,W,hi,Z,hd,h=>by
  refine⟨qog λk hk=>qlp _ Oo,ρ,Z,?_⟩;rw[List.drop_of_length_le Ys]at h;subst hd;exact h
 | c+1,i,ρ,ds,a,w,W,hi,Z,hd,h=>by
  have ad:i<ops.size:=by omega
  have H:ops[i]?=some ops[i]:=(by simp)
  have ae:i∈Region.ready .any ops (qgt i (c+1)):=by
   refine mem_ready.2 ⟨(by grind [q2u]),ops[i],H,λe he hb=>qlp _ ?_⟩;rw[qdc]at hb;exact U.lt i _ H _ (qb3.2 ⟨e,by simpa using he,hb,rfl⟩)
  refine⟨(by grind),λj hj=>?_⟩;obtain⟨O,o,ho,h2⟩:=mem_ready.1 hj;have af:=(BO.1 ho).1;have e:j=i:=by
   rcases AH j i with g|g
   ·rw[qlp _ g]at O;cases O
   ·rcases C9 g with g|g
    ·exact g.symm
    ·exfalso
     obtain⟨e,he,hb,ag⟩:=qb3.1 (U.next j o ho Oo)
     grind [qdc,q2v]
  subst e;rw[qxi];have aa:ops.toList.drop j=ops[j]::ops.toList.drop (j+1):=by
   grind [List.drop_eq_getElem_cons]
  rw[aa]at h;have:=regK (ops:=ops.toList) (i:=j) (Q':=qdq n Q) (K':=wpAnyIn (Fr r) 0 P .any ops (qdq n Q) c (qgt (j+1) c)) Oo Z hd h λab ac a' w' O h2 h3=>qoi U c (j+1) ab ac a' w' Oo Oo O h2 h3
  omega
theorem q11(hT:TailP m ops)(a1:r=none\/qzk (ops.toList.take m)=true){Q:QW}:∀(fuel:Nat) (L:Array Bool) (a:Act) (w:Dc),L.size=m->L.toList.count false=fuel->
  (∀(j:Nat) (o:Oper),ops[j]?=some o->L.getD j false=true->∀k∈qau o,L.getD k false=true)->
  wpAny P .any (ops.toList.take m).toArray (λe a' w'=>e=.normal/\∃O,St n O a'/\regW P n r ops.toList (Q .normal) (ops.toList.drop m) O ds w') fuel L a w->
  wpAnyIn (Fr r) 0 P .any ops (qdq n Q) (fuel+(ops.size-m)) (L++Array.replicate (ops.size-m) false) { a with defers:=a.defers++ds } w:=by
 intro fuel;have a2:=hT.msz;have ad:∀j:Nat,j<m->(ops.toList.take m).toArray[j]?=ops[j]?:=(by grind)
 have U:∀(L:Array Bool),L.size=m->∀(j:Nat) (d:Bool),j<m->(L++Array.replicate (ops.size-m) false).getD j d=L.getD j d:=λL hL j d hj=>by
  simp_all[Array.getElem?_append_left]
 have an:∀(L:Array Bool),L.size=m->∀j:Nat,m<=j->(L++Array.replicate (ops.size-m) false).getD j false=false:=λL hL j hj=>by
  rw[BM,Array.getElem?_append_right Oo,Array.getElem?_replicate]
  grind
 have af:∀(L:Array Bool),L.size=m->L.toList.count false=0->L=Array.replicate m true:=(by grind [Array.getElem_mem])
 have ao:∀(L:Array Bool) (a:Act) (w:Dc),L.size=m->L.toList.count false=0->(∃O,St n O a/\regW P n r ops.toList (Q .normal) (ops.toList.drop m) O ds w)->
   wpAnyIn (Fr r) 0 P .any ops (qdq n Q) (0+(ops.size-m)) (L++Array.replicate (ops.size-m) false) { a with defers:=a.defers++ds } w:=λL a w hL h0 ⟨O,Z,h2⟩=>by
  rw[af L hL h0,Aq];have e:Array.replicate m true++Array.replicate (ops.size-m) false=qgt m (ops.size-m):=by
   simp[qgt]
  rw[e];refine qoi hT (ops.size-m) m O ds _ w Oo Oo ?_ ?_ h2
  ·show St n O { a with defers:=[] };have:({ a with defers:=[] }:Act)=a:=by have:=Z.defers;cases a;cases this;rfl
   simp_all
  ·show a.defers++ds=ds;rw[Z.defers];rfl
 induction fuel with
 | zero=>
  intro L a w hL h0 ag h;exact ao L a w hL h0 h.2.2
 | succ fuel ih=>
  intro L a w hL h0 ag h;have aq:∀i,i∈Region.ready .any ops (L++Array.replicate (ops.size-m) false)↔i∈Region.ready .any (ops.toList.take m).toArray L:=by
   intro i
   constructor
   ·intro hi;obtain⟨g1,o,ho,g2⟩:=mem_ready.1 hi;have aa:i<m:=by
     refine Nat.lt_of_not_le λg=>?_;have ah:∀k∈qau o,(L++Array.replicate (ops.size-m) false).getD k false=true:=λk hk=>by
      obtain⟨e,he,hb,ai⟩:=qb3.1 hk
      grind [qdc]
     rcases C9 g with g|g
     ·subst g;have W:=qtj (ops:=ops) (p:=λk=>L.getD k false=true) ag m _ (hT.reach o ho) λk hk=>by
       have:=ah k hk
       rwa[U L hL k false (by grind)]at this
      have hz:L.toList.count false=0:=by
       rw[List.count_eq_zero];intro ab;obtain⟨k,hk,e⟩:=BJ.1 ab;have aj:k<L.size:=by omega
       have:=W k Oo;simp[aj]at this e
       grind
      omega
     ·have:=ah _ (hT.next i o ho g)
      grind
    refine mem_ready.2 ⟨by simp_all,o,by simp_all,λe he hb=>?_⟩;have Z:=g2 e he hb
    rwa[U L hL _ _ (by grind)]at Z
   ·intro hi;obtain⟨g1,o,ho,g2⟩:=mem_ready.1 hi;have aa:i<m:=by
     grind
    rw[ad i aa]at ho;refine mem_ready.2 ⟨by simp_all,o,ho,λe he hb=>?_⟩;rw[U L hL _ _ (by grind)]
    simp_all
  have a3:∃i,i∈Region.ready .any ops (L++Array.replicate (ops.size-m) false):=by
   have ab:false∈L.toList:=(by grind)
   obtain⟨k,hk,e⟩:=BJ.1 ab;have aj:k<L.size:=by omega
   have hex:∃k,k<m/\L.getD k false=false:=⟨k,by omega,by simp_all⟩
   have ar:∀k,k<m->L.getD k false=false->∃i,i∈Region.ready .any ops (L++Array.replicate (ops.size-m) false):=by
    intro k
    induction k using Nat.strongRecOn with
    | _ k a4=>
     intro a5 a6;have ho:ops[k]?=some ops[k]:=(by simp)
     by_cases W:∀p∈qau ops[k],L.getD p false=true
     ·refine⟨k,mem_ready.2 ⟨?_,ops[k],ho,λe he hb=>?_⟩⟩
      ·simp_all
      ·have hp:e.on∈qau ops[k]:=qb3.2 ⟨e,by simpa using he,by rw[<-qdc];exact hb,rfl⟩;rw[U L hL _ _ (by grind)];exact W _ hp
     ·obtain⟨p,hp⟩:=Classical.not_forall.1 W;obtain⟨au,a7⟩:=Classical.not_imp.1 hp;have:=hT.lt k _ ho p au
      grind
   grind
  rw[show fuel+1+(ops.size-m)=(fuel+(ops.size-m))+1 by omega];refine⟨(by grind),λi hi=>?_⟩;have ak:=(aq i).1 hi;obtain⟨g1,o,ho,g2⟩:=mem_ready.1 ak;have aa:i<m:=by
   grind
  have ac:=ho;rw[ad i aa]at ac;have Z:=h.2 i ak;have av:(L++Array.replicate (ops.size-m) false).setIfInBounds i true=L.setIfInBounds i true++Array.replicate (ops.size-m) false:=by
   rw[<-Br];simp only[BQ,Array.toList_append];rw[List.set_append_left _ _ (by simpa[hL]using aa)]
  have aw:L.getD i true=false:=g1;have a0:=V.countP_set L i aw;have ax:∀a' w',wpAny P .any (ops.toList.take m).toArray (λe a' w'=>e=.normal/\∃O,St n O a'/\regW P n r ops.toList (Q .normal) (ops.toList.drop m) O ds w') fuel (L.setIfInBounds i true) a' w'->
    wpAnyIn (Fr r) 0 P .any ops (qdq n Q) (fuel+(ops.size-m)) ((L++Array.replicate (ops.size-m) false).setIfInBounds i true) { a' with defers:=a'.defers++ds } w':=λa' w' hw=>by
   rw[av];refine ih _ a' w' (by simp[hL]) Oo (λj oj al ay k hk=>?_) hw
   by_cases am:i=j
   ·subst am;rw[ac]at al;cases al;obtain⟨e,he,hb,ai⟩:=qb3.1 hk;have:=g2 e (by simpa using he) (by rw[qdc];exact hb);rw[ai]at this;exact getD_set_true this
   ·rw[getD_set_ne false am]at ay
    grind [getD_set_true]
  have ae:∀tm,Region.wanted o (yielded ops tm)=Region.wanted o (yielded (ops.toList.take m).toArray tm):=λtm=>by
   cases hg:o.guard with
   | none=>simp[Region.wanted,hg]
   | some gb=>
    obtain⟨g,b⟩:=gb;have:=hT.guard i o g b ac aa hg;have e:yielded ops tm g=yielded (ops.toList.take m).toArray tm g:=by
     grind [yielded]
    simp only[Region.wanted,hg,e]
  have az:r=none\/∀c,o.op≠.defer c:=(by grind [qs5])
  unfold wpOp at Z;unfold wpOpIn;rw[ho]at Z;rw[ac];dsimp only at Z|-;rw[ae]
  split
  ·rename_i hw
   rw[Af hw]at Z
   rcases Z with Z|⟨_,a',w',hq⟩
   ·exact qk9 az (λ_ _ _ h=>h.1) ax Z
   grind
  ·rename_i hw
   rw[Ab hw]at Z;refine⟨λ_ _=>trivial,?_⟩;have hp:({ a with defers:=a.defers++ds }:Act).put o.dst undef={ a.put o.dst undef with defers:=(a.put o.dst undef).defers++ds }:=by cases o.dst<;>rfl
   grind
theorem DrawW.tail{Q:QW}(m:Nat)(hm:P.follows .mixedOrders=true)(hB:q93 m ops.toList=true)(O:r=none\/qzk (ops.toList.take m)=true)(h:AnyV P n (ops.toList.take m).toArray (λU w'=>regW P n r ops.toList (Q .normal) (ops.toList.drop m) U ds w') ρ w):DrawW P n r id ops Q ρ ds w:=by
 refine⟨λa ha hd=>wpIn_region_any hm ?_⟩;have hT:=q4y hB;have W:=hT.msz;have e:a={ ({ a with defers:=[] }:Act)with defers:=({ a with defers:=[] }:Act).defers++ds }:=by subst hd;rfl
 have Z:(ops.toList.take m).toArray.size=m:=by simp;omega
 have h0:=h.h { a with defers:=[] } ha;rw[Z]at h0;have h1:=q11 (r:=r) (Q:=Q) hT O m (Array.replicate m false) { a with defers:=[] } w.drew Js Js (λj o _ hl=>by rw[qdy]at hl;cases hl) h0;rw[<-e]at h1;have e2:m+(ops.size-m)=ops.size:=by omega
 have e3:Array.replicate m false++Array.replicate (ops.size-m) false=Array.replicate ops.size false:=by
  rw[<-Br];simp[Nat.add_sub_cancel' (Nat.le_of_lt W)]
 rw[e2,e3]at h1;exact h1
end
end V
end Go.Proofs.YtccmcfpmknpccaaGreatDoor
