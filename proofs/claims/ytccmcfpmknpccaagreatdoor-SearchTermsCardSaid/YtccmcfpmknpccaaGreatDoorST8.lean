/- Lemmas and contracts of functions on the way to the law's card (part 8 of 16). -/
import Derived.Test.YtccmcfpmknpccaaGreatDoorST7
import Derived.OrdersIn
namespace Go.Proofs.YtccmcfpmknpccaaGreatDoor
set_option maxHeartbeats 8000000
open Go.RowKit V
variable {ahead d l s:LB} {a b c hi i id j k lo m off:Nat} {S:List Bool} {Q:Nat->Nat->Nat} {w:Dd} {R:Dj} {o:Oper} {ds:Dr} {ops:Array Oper} {ρ:Dk} {assign body:Code} {gf:FuncId} {lb:Dn} {J:Dm->Dl} {B:Dm} {cs:Dq} {fr:Nat×Nat} {K':Act->Dl} {Q':Exit->Act->Dl}
theorem qiv:∀a b:LB,comL a b<=a.length/\comL a b<=b.length/\a.take (comL a b)=b.take (comL a b)
 | [],[]=>⟨Ao _,Ao _,rfl⟩
 | [],_::_=>⟨An _,An _,rfl⟩
 | _::_,[]=>⟨An _,An _,rfl⟩
 | x::a,y::b=>by
  by_cases h:x=y
  ·subst h;obtain⟨H,O,U⟩:=qiv a b;rw[comL,Af rfl];exact⟨by simpa using H,by simpa using O,by rw[List.take_succ_cons,List.take_succ_cons,U]⟩
  ·rw[comL,Ab h];exact⟨An _,An _,rfl⟩
def entE(first:Bool)(ahead s:LB):LB:=
 if first then varL s.length++s else varL (comL ahead s)++(varL (s.length-comL ahead s)++s.drop (comL ahead s))
theorem qf{H:Type}(a b:List H):(a++b).drop a.length=b:=by simp
theorem qnp{first:Bool}(r:LB)(W:s.length<=262144)(Z:ahead.length<=262144):entG (entE first ahead s++r) first ahead=(s,(entE first ahead s).length,0):=by
 cases first with
 | true=>
  have e:entE true ahead s=varL s.length++s:=by rfl
  grind [qa1,entG]
 | false=>
  have e:entE false ahead s=varL (comL ahead s)++(varL (s.length-comL ahead s)++s.drop (comL ahead s)):=by rfl
  obtain⟨c1,c2,H⟩:=qiv ahead s;rw[e,Au,Au];have O:=qa1 (n:=comL ahead s) Oo (varL (s.length-comL ahead s)++(s.drop (comL ahead s)++r));have U:=qa1 (n:=s.length-comL ahead s) Oo (s.drop (comL ahead s)++r);unfold entG;rw[Ab Bool.false_ne_true,O];dsimp only;rw[Ab Oo,qf,U];dsimp only;rw[Ab Oo,Ab Oo,Ab Oo,Ab Js,H,<-Ax,qf,qf]
  grind [zld,List.take_append_drop]
def tx(L:List LB)(i:Nat):LB:=L.getD i []
def arL(L:List LB):Nat->LB
 | 0=>[]
 | i+1=>arL L i++entE (decide (i%16=0)) (if i=0 then[]else tx L (i-1)) (tx L i)
theorem qle(L:List LB){i:Nat}:∀{n:Nat},i<=n->∃r,arL L n=arL L i++r
 | 0,h=>⟨[],by simp_all⟩
 | n+1,h=>by
  by_cases e:i=n+1
  ·simp_all
  ·obtain⟨r,H⟩:=qle L (i:=i) (n:=n) Oo
   grind [arL]
theorem qrp(L:List LB){n:Nat}(h:i<n):∃r,(arL L n).drop (arL L i).length=entE (decide (i%16=0)) (if i=0 then[]else tx L (i-1)) (tx L i)++r:=by
 obtain⟨r,H⟩:=qle L (i:=i+1) (n:=n) h
 grind [arL]
def byt(f:Nat->Nat)(b:Nat):Nat:=
 f (8*b)%2+2*(f (8*b+1)%2)+4*(f (8*b+2)%2)+8*(f (8*b+3)%2)+16*(f (8*b+4)%2)+32*(f (8*b+5)%2)+64*(f (8*b+6)%2)+128*(f (8*b+7)%2)
theorem qrx(f:Nat->Nat)(b:Nat):byt f b<256:=by unfold byt;omega
theorem q7b(f:Nat->Nat)(b:Nat):∀{r:Nat},r<8->byt f b/2 ^ r%2=f (8*b+r)%2
 | 0,_=>by grind [byt]
 | 1,_=>by unfold byt;simp;omega
 | 2,_=>by unfold byt;simp;omega
 | 3,_=>by unfold byt;simp;omega
 | 4,_=>by unfold byt;simp;omega
 | 5,_=>by unfold byt;simp;omega
 | 6,_=>by unfold byt;simp;omega
 | 7,_=>by grind [byt]
 | _+8,h=>by omega
def qbz(f:Nat->Nat)(n:Nat):LB:=(List.range n).map λb=>UInt8.ofNat (byt f b)
theorem qc6(f:Nat->Nat)(n:Nat):(qbz f n).length=n:=by simp[qbz]
theorem q19(f:Nat->Nat){n:Nat}(h:b<n):((qbz f n).getD b 0).toNat=byt f b:=by
 grind [qbz,qat,qrx]
theorem qfj(f:Nat->Nat){n t:Nat}(h:t<8*n):bitN (qbz f n) t=f t%2:=by
 grind [bitN,q19,q7b]
def qc3(l:Do)(w:Nat):LB:=qbz (λt=>l.getD (t/w) 0/2 ^ (t%w)) ((l.length*w+7)/8)
theorem qby(l:Do)(w:Nat):(qc3 l w).length=(l.length*w+7)/8:=qc6 _ _
theorem qzu{l:Do}{w:Nat}(hi:i<l.length)(O:k<w):bitN (qc3 l w) (i*w+k)=l.getD i 0/2 ^ k%2:=by
 have H:(i+1)*w<=l.length*w:=Bd _ hi;rw[Nat.add_mul]at H;have U:(i*w+k)/w=i:=by grind [Nat.mul_comm,Nat.mul_add_div,Nat.div_eq_of_lt]
 grind [Nat.mul_comm,Nat.mul_add_mod,Nat.mod_eq_of_lt,qc3,qfj]
theorem qkr{l:Do}{w i:Nat}(hi:i<l.length):∀{k:Nat},k<=w->valB (qc3 l w) (i*w) k=l.getD i 0%2 ^ k
 | 0,_=>by rw[valB,Nat.pow_zero,Nat.mod_one]
 | k+1,h=>by
  rw[valB,qkr hi Oo,qzu hi Oo,Nat.mod_pow_succ,BN (2 ^ k)]
theorem qja{l:Do}{w:Nat}(hi:i<l.length)(h:l.getD i 0<2 ^ w):valB (qc3 l w) (i*w) w=l.getD i 0:=by
 grind [qkr,Nat.mod_eq_of_lt]
theorem qn9(l:Do)(w:Nat):¬PadB (qc3 l w) (l.length*w):=by
 rintro⟨t,U,H,O⟩;rw[qby]at H;rw[qc3,qfj _ H]at O;have W:0<w:=by
  grind
 simp_all[Nat.le_div_iff_mul_le]
theorem ql7:∀{n:Nat},n<18446744073709551616->n<2 ^ qaf n:=by
 intro n
 induction n using Nat.strongRecOn<;>grind [qet]
def plcL(L:List LB):Do:=(List.range (upN L.length 16)).map λk=>(arL L (16*k)).length
def qaj(L:List LB):LB:=arL L L.length
def qj(L:List LB):LB:=varL L.length++(varL (qaj L).length++(qc3 (plcL L) (qaf (qaj L).length)++qaj L))
structure DOk(L:List LB):Prop where
 n:L.length<=4194304
 len:∀i,(tx L i).length<=262144
 rise:∀i,i+1<L.length->leL (tx L (i+1)) (tx L i)=false
 area:(qaj L).length<=67108864
theorem qii(L:List LB):(plcL L).length=upN L.length 16:=by simp[plcL]
theorem qz0{L:List LB}(h:k<upN L.length 16):(plcL L).getD k 0=(arL L (16*k)).length:=by
 grind [plcL]
section
variable {L:List LB} (h:DOk L)
include h
theorem DOk.num0:numL (qj L)=(L.length,(varL L.length).length,0):=qa1 (by have:=h.n;omega) _
theorem DOk.vAt1:vAt (qj L) 1=(varL L.length).length:=by rw[vAt,vAt,B8,h.num0,Aq]
theorem DOk.drop1:(qj L).drop (varL L.length).length=varL (qaj L).length++(qc3 (plcL L) (qaf (qaj L).length)++qaj L):=have _:=h;qf _ _
theorem DOk.num1:numL ((qj L).drop (vAt (qj L) 1))=((qaj L).length,(varL (qaj L).length).length,0):=by
 rw[h.vAt1,h.drop1];exact qa1 (by have:=h.area;omega) _
theorem DOk.eN:dN (qj L)=L.length:=by rw[dN,vNum,vAt,B8,h.num0]
theorem DOk.eSize:quf (qj L)=(qaj L).length:=by rw[quf,vNum,h.num1]
theorem DOk.eThird:qcb (qj L)=(varL L.length).length+(varL (qaj L).length).length:=by rw[qcb,vAt,h.num1,h.vAt1]
theorem DOk.eFourth:qy (qj L)=(varL L.length).length+(varL (qaj L).length).length+(qc3 (plcL L) (qaf (qaj L).length)).length:=by
 rw[qy,h.eThird,h.eN,dW,h.eSize,qby,qii]
theorem DOk.eEntries:qc (qj L)=qaj L:=by
 rw[qc,h.eFourth,<-Ax,<-Ax,h.drop1,qf,qf]
theorem DOk.ePlaces:qai (qj L)=qc3 (plcL L) (qaf (qaj L).length):=by
 rw[qai,h.eFourth,h.eThird,<-Ax,h.drop1,qf,BL,Bx znr,BB]
theorem DOk.len_eq:(qj L).length=(varL L.length).length+(varL (qaj L).length).length+(qc3 (plcL L) (qaf (qaj L).length)).length+(qaj L).length:=by
 have _:=h;grind [qj]
theorem DOk.eE:(dE (qj L)).2=0:=by
 have U:(errF (dhF (qj L)) 2).2=0:=qbe λk H=>by
  have hn:=h.n;have O:=h.area
  match k,H with
  | 0,_=>rw[dhF,Af rfl,qg6 (by rw[vAt,B8,h.num0]) (by rw[show vNum (qj L) 0=_ from h.eN];exact hn)]
  | 1,_=>rw[dhF,Ab Od,qg6 (by rw[h.num1]) (by rw[show vNum (qj L) 1=_ from h.eSize];exact O)]
 rw[dE,Ab Oo,dEnd,h.eFourth,h.eSize,h.len_eq,Ab Oo,Ab Oo]
theorem DOk.ePlace(H:k<upN L.length 16):qz (qj L) k=(arL L (16*k)).length:=by
 have O:=h.area;have hn:16*k<=L.length:=by grind [upN]
 obtain⟨r,U⟩:=qle L hn;have W:(arL L (16*k)).length<=(qaj L).length:=by grind [qaj]
 rw[qz,h.ePlaces,dW,h.eSize,qja (by rw[qii];exact H),qz0 H]
 grind [qz0,ql7]
theorem DOk.eSt:∀{i:Nat},i<=L.length->dSt (qj L) i=(if i=0 then[]else tx L (i-1),(arL L i).length)
 | 0,_=>by rfl
 | i+1,hi=>by
  have H:=DOk.eSt (i:=i) Oo;obtain⟨r,O⟩:=qrp L (i:=i) (n:=L.length) hi;have U:(if i=0 then[]else tx L (i-1)).length<=262144:=by split;exact An _;exact h.len _
  rw[q2p H rfl,h.eEntries,qaj,O,qnp r (h.len i) U,arL,zla,Ab (Nat.succ_ne_zero i),Bl]
theorem DOk.ent(hi:i<L.length):∃r,(qc (qj L)).drop (dSt (qj L) i).2=entE (decide (i%16=0)) (dSt (qj L) i).1 (tx L i)++r:=by
 obtain⟨r,H⟩:=qrp L (i:=i) (n:=L.length) hi;refine⟨r,?_⟩;rw[h.eSt Oo,h.eEntries];exact H
theorem DOk.enF(hi:i<L.length):(dnF (qj L) i).2=0:=by
 obtain⟨r,O⟩:=h.ent hi;have U:(dSt (qj L) i).1.length<=262144:=by rw[h.eSt Oo];show(if _ then _ else _:LB).length<=_;split;exact An _;exact h.len _
 have W:=qnp (first:=decide (i%16=0)) r (h.len i) U;have H:(dSt (qj L) (i+1)).1=tx L i:=by rw[h.eSt Oo,Ab (Nat.succ_ne_zero i),Bl]
 rw[dnF,O,W,H];rw[Ab (λg=>g.2 (by rw[h.ePlace (by unfold upN;omega),h.eSt Oo,show 16*(i/16)=i by omega]))];rw[Ab Js];rw[Ab (λg=>by
  have:=h.rise (i-1) Oo;rw[show i-1+1=i by omega]at this;rw[h.eSt Oo,Ab Oo]at g
  simp_all)]
 grind [entE,qa1,qiv,qnh]
theorem DOk.eoE:doE (qj L)=(0,0):=by
 refine qaa9 h.eE ?_ (λj H=>h.enF (by rw[<-h.eN];exact H)) ?_
 ·refine BI λg=>?_;have:=(qzm _ _ _).1 g;rw[h.ePlaces,h.eN,dW,h.eSize,<-qii]at this;exact qn9 _ _ this
 ·rw[h.eN,h.eSt znr,h.eEntries];exact CX _
theorem DOk.eGet(hi:i<L.length):dGet (qj L) i=some (tx L i):=by
 have H:=(qpn (m:=qj L) (i:=i+1) λk O=>h.enF Oo).2 Oo (by rw[h.eN];omega);rw[Bl,h.eSt Oo,Ab Oo,Bl]at H;exact H
end
def jo3(a b c:LB):LB:=varL a.length++(varL b.length++(varL c.length++(a++(b++c))))
section
variable {a b c:LB} (h:a.length+b.length+c.length<=67108864)
include h
theorem qyg:numL (jo3 a b c)=(a.length,(varL a.length).length,0):=qa1 Oo _
theorem q58:vAt (jo3 a b c) 1=(varL a.length).length:=by grind [vAt,qyg]
theorem qyh:numL ((jo3 a b c).drop (vAt (jo3 a b c) 1))=(b.length,(varL b.length).length,0):=by
 grind [q58,jo3,qa1]
theorem q59:vAt (jo3 a b c) 2=(varL a.length).length+(varL b.length).length:=by rw[vAt,qyh h,q58 h]
theorem qyi:numL ((jo3 a b c).drop (vAt (jo3 a b c) 2))=(c.length,(varL c.length).length,0):=by
 grind [q59,jo3,qa1]
theorem q6a:vAt (jo3 a b c) 3=(varL a.length).length+(varL b.length).length+(varL c.length).length:=by rw[vAt,qyi h,q59 h]
theorem qyj:vNum (jo3 a b c) 0=a.length:=by grind [vNum,vAt,qyg]
theorem qyk:vNum (jo3 a b c) 1=b.length:=by rw[vNum,qyh h]
theorem qyl:vNum (jo3 a b c) 2=c.length:=by rw[vNum,qyi h]
theorem q6c:q9 (jo3 a b c) 1=vAt (jo3 a b c) 3+a.length:=by rw[q9,q9,qyj h]
theorem q6d:q9 (jo3 a b c) 2=vAt (jo3 a b c) 3+a.length+b.length:=by rw[q9,q6c h,qyk h]
theorem qabj:q9 (jo3 a b c) 3=vAt (jo3 a b c) 3+a.length+b.length+c.length:=by rw[q9,q6d h,qyl h]
theorem ql3:(jo3 a b c).drop (vAt (jo3 a b c) 3)=a++(b++c):=by
 rw[q6a h,jo3,<-Ax,<-Ax,qf,qf,qf]
theorem q75:(jo3 a b c).length=vAt (jo3 a b c) 3+a.length+b.length+c.length:=by
 grind [q6a,jo3]
theorem qabk:(sE (jo3 a b c)).2=0:=by
 have O:(errF (vsF (jo3 a b c)) 3).2=0:=qbe λk H=>by
  match k,H with
  | 0,_=>grind [vsF,qg6,vAt,qyg,qyj]
  | 1,_=>grind [vsF,qg6,qyh,qyk]
  | 2,_=>grind [vsF,qg6,qyi,qyl]
 grind [sE,qabj,q75]
theorem qabg:sDict (jo3 a b c) 0=a:=by
 grind [sDict,q9,ql3,qyj]
theorem qabh:sDict (jo3 a b c) 1=b:=by
 grind [sDict,q6c,List.drop_drop,ql3,qyk,List.take_left]
theorem qabi:sDict (jo3 a b c) 2=c:=by
 grind [sDict,q6d,List.drop_drop,ql3,qf,qyl]
end
def secE(T:List TM)(k:Nat):List LB:=(T.filter λt=>decide (t.kind=((k+1:Nat):Int))).map qae
def vocB(T:List TM):LB:=jo3 (qj (secE T 0)) (qj (secE T 1)) (qj (secE T 2))
structure VOk(T:List TM):Prop where
 d:∀k,k<3->DOk (secE T k)
 size:(qj (secE T 0)).length+(qj (secE T 1)).length+(qj (secE T 2)).length<=67108864
section
variable {T:List TM} (h:VOk T)
include h
theorem VOk.sDict{k:Nat}(H:k<3):sDict (vocB T) k=qj (secE T k):=
 match k,H with
 | 0,_=>qabg h.size
 | 1,_=>qabh h.size
 | 2,_=>qabi h.size
theorem VOk.sE:(sE (vocB T)).2=0:=qabk h.size
theorem VOk.doE{k:Nat}(H:k<3):(doE (Go.Proofs.YtccmcfpmknpccaaGreatDoor.sDict (vocB T) k)).2=0:=by rw[h.sDict H,(h.d k H).eoE]
theorem VOk.dN{k:Nat}(H:k<3):dN (Go.Proofs.YtccmcfpmknpccaaGreatDoor.sDict (vocB T) k)=(secE T k).length:=by rw[h.sDict H,(h.d k H).eN]
theorem VOk.get(H:k<3)(O:j<(secE T k).length):dGet (Go.Proofs.YtccmcfpmknpccaaGreatDoor.sDict (vocB T) k) j=some (tx (secE T k) j):=by rw[h.sDict H,(h.d k H).eGet O]
theorem VOk.wE:(wE (vocB T)).2=0:=by
 rw[Go.Proofs.YtccmcfpmknpccaaGreatDoor.wE,Ab (by rw[h.sE];omega)];exact qbe λk H=>by rw[sdF,Af (qsb (h.doE H)).1]
theorem VOk.vwE(ht:∀t∈T,qa2 t=0):(vwE (vocB T)).2=0:=by
 refine qac3 h.sE (λk H=>h.doE H) λk H=>qac2 λj W hb=>?_;rw[h.dN H]at W;obtain⟨s,Z,hn⟩:=hb;rw[h.get H W]at Z;cases Z;have O:j<(T.filter λt=>decide (t.kind=((k+1:Nat):Int))).length:=by grind [secE]
 have hm:=AP O;have U:=Bo.1 hm;refine hn _ ⟨by simp_all,ht _ U.1,?_⟩
 grind [tx,secE]
end
section
variable {d:LB} {n:Nat} (hn:n<=67108864) (hd:d.length=upN n 8)
include hn
theorem qci:vN (qac d n)=n:=by
 grind [qac,qh,vN,qgx]
theorem qes:vM (qac d n)=cnt d n:=by
 have H:=qdv d n;have e:((qac d n).drop 4).take 4=fixL (cnt d n) 4:=by
  rfl
 grind [vM,qgx]
include hd
theorem qgh:vD (qac d n)=d:=by
 rw[vD,qci hn]
 simp_all[qac,fixL]
theorem qjx:vOk (qac d n)=true:=by
 grind [qee,qdv,vOk,qci,qes,qa7,qak,q6,qi]
theorem q5q(H:¬PadB d n):voE (qac d n)=(0,0):=by
 grind [qac1,qgh,qci,qes]
end
def frU(Q:Nat->Nat->Nat)(i:Nat):Nat->Bool
 | 0=>i==0||Q i 0 != Q (i-1) 0
 | k+1=>frU Q i k||Q i (k+1) != Q (i-1) (k+1)
theorem qfs(Q:Nat->Nat->Nat):∀k,frU Q 0 k=true
 | 0=>rfl
 | k+1=>by rw[frU,qfs Q k];rfl
theorem qnv{Q:Nat->Nat->Nat}{i k:Nat}(h:frU Q i k=true):∀{m:Nat},k<=m->frU Q i m=true
 | 0,H=>by rwa[Nat.le_zero.1 H]at h
 | m+1,H=>by
  by_cases e:k=m+1
  ·rwa[e]at h
  ·rw[frU,qnv h (m:=m) Oo];rfl
theorem qfr{Q:Nat->Nat->Nat}{i:Nat}:∀{k:Nat},frU Q i k=false->0<i/\∀j,j<=k->Q i j=Q (i-1) j
 | 0,h=>by
  grind [frU]
 | k+1,h=>by
  simp only[frU,CQ,bne_eq_false_iff_eq]at h;obtain⟨H,O⟩:=qfr h.1
  grind
theorem qxy{Q:Nat->Nat->Nat}{i:Nat}(H:0<i):∀{k:Nat},(∀j,j<=k->Q i j=Q (i-1) j)->frU Q i k=false
 | 0,h=>by simp only[frU,CQ,beq_eq_false_iff_ne,bne_eq_false_iff_eq];exact⟨by omega,h 0 znr⟩
 | k+1,h=>by
  rw[frU,qxy H λj O=>h j Oo];simp only[CW,bne_eq_false_iff_eq];exact h (k+1) znr
def nuT(Q:Nat->Nat->Nat)(k:Nat):Nat->Do
 | 0=>[]
 | i+1=>if frU Q i k=true then nuT Q k i++[Q i k]else nuT Q k i
def stT(Q:Nat->Nat->Nat)(k:Nat):Nat->List Bool
 | 0=>[]
 | i+1=>if frU Q i (k+1)=true then stT Q k i++[frU Q i k]else stT Q k i
def leT(Q:Nat->Nat->Nat)(k i:Nat):Nat:=(nuT Q k i).length
section
variable {Q:Nat->Nat->Nat}
theorem qa0(h:frU Q i k=true):leT Q k (i+1)=leT Q k i+1:=by grind [leT,nuT]
theorem qbc(h:frU Q i k=false):leT Q k (i+1)=leT Q k i:=by grind [leT,nuT]
theorem qsp(k:Nat):∀i,leT Q k i<=i
 | 0=>Ao _
 | i+1=>by
  have:=qsp k i;cases h:frU Q i k with
  | true=>rw[qa0 h];omega
  | false=>rw[qbc h];omega
theorem qd0(k:Nat)(h:0<i):0<leT Q k i:=by
 induction i with
 | zero=>omega
 | succ i H=>
  by_cases e:i=0
  ·grind [qa0,qfs]
  ·have:=H Oo;cases h:frU Q i k<;>grind [qa0,qbc]
theorem qaz(k:Nat){a:Nat}:∀{b:Nat},a<=b->leT Q k a<=leT Q k b
 | 0,h=>by rw[Nat.le_zero.1 h];exact Ao _
 | b+1,h=>by
  by_cases e:a=b+1
  ·rw[e];exact Ao _
  ·have:=qaz k (a:=a) (b:=b) Oo;cases h:frU Q b k with
   | true=>rw[qa0 h];omega
   | false=>rw[qbc h];omega
theorem qn5(k:Nat):∀i,leT Q k i<=leT Q (k+1) i
 | 0=>Ao _
 | i+1=>by
  have:=qn5 k i;cases h:frU Q i k with
  | true=>rw[qa0 h,qa0 (qnv h (m:=k+1) (BX k))];omega
  | false=>
   rw[qbc h];cases H:frU Q i (k+1)with
   | true=>rw[qa0 H];omega
   | false=>rw[qbc H];omega
theorem qbm(k:Nat):∀i,(stT Q k i).length=leT Q (k+1) i
 | 0=>rfl
 | i+1=>by
  have:=qbm k i;cases h:frU Q i (k+1)with
  | true=>rw[qa0 h,stT,Af h];simp[this]
  | false=>rw[qbc h,stT,Ab (by rw[h];decide),this]
theorem qjp(k:Nat):∀i,(stT Q k i).count true=leT Q k i
 | 0=>rfl
 | i+1=>by
  have:=qjp k i;cases h:frU Q i (k+1)with
  | true=>
   rw[stT,Af h,List.count_append,this];cases H:frU Q i k with
   | true=>rw[qa0 H];rfl
   | false=>rw[qbc H];rfl
  | false=>
   have H:frU Q i k=false:=by
    cases H:frU Q i k with
    | true=>rw[qnv H (m:=k+1) (BX k)]at h;cases h
    | false=>rfl
   rw[qbc H,stT,Ab (by rw[h];decide),this]
theorem qko(k:Nat):∀{i n:Nat},i<n->(nuT Q k n).getD (leT Q k (i+1)-1) 0=Q i k
 | i,0,h=>by omega
 | i,n+1,h=>by
  by_cases e:i=n
  ·subst e;cases H:frU Q i k with
   | true=>
    rw[qa0 H,Bl,nuT,Af H,Ag];simp[leT]
   | false=>
    have U:=qfr H;have O:=qko k (i:=i-1) (n:=i) Oo;rw[qbc H,nuT,Ab (by rw[H];decide)];rw[BE Oo]at O;rw[O];exact(U.2 k znr).symm
  ·have O:=qko k (i:=i) (n:=n) Oo;have W:=qaz (Q:=Q) k (a:=i+1) (b:=n) Oo;have Z:=qd0 (Q:=Q) k (i:=i+1) Oo;cases H:frU Q n k with
   | true=>
    rw[nuT,Af H,Ag,Bb (by show _<leT Q k n;omega),<-Ag];exact O
   | false=>rw[nuT,Ab (by rw[H];decide)];exact O
end
def laT(S:List Bool)(t:Nat):Nat:=if t+1=S.length then 1 else if S.getD (t+1) false=true then 1 else 0
def qay(S:List Bool):LB:=qbz (laT S) (upN S.length 8)
theorem qabn(S:List Bool)(t:Nat):laT S t%2=laT S t:=by
 grind [laT]
theorem qcd(S:List Bool):(qay S).length=upN S.length 8:=qc6 _ _
theorem qfu{t:Nat}(h:t<S.length):bitN (qay S) t=laT S t:=by
 grind [qay,qfj,upN,qabn]
theorem qn3(S:List Bool):¬PadB (qay S) S.length:=by
 rintro⟨t,H,O,U⟩
 grind [qcd,qay,qfj,laT]
theorem qk0(S:List Bool){e:Nat}(h:e<S.length):(S.take (e+1)).count true=(S.take e).count true+(if S.getD e false=true then 1 else 0):=by
 grind [List.take_succ_eq_append_getElem]
theorem qi2{S:List Bool}(H:S.getD 0 false=true):∀{e:Nat},e<S.length->cnt (qay S) e+1=(S.take (e+1)).count true
 | 0,h=>by rw[qk0 S h,H];rfl
 | e+1,h=>by
  have O:=qi2 H (e:=e) Oo;rw[cnt,qk0 S h,qfu Oo,laT,Ab Oo];omega
theorem qys(H:S.getD 0 false=true)(O:0<S.length):cnt (qay S) S.length=S.count true:=by
 have U:=qi2 H (e:=S.length-1) Oo
 grind [cnt,qfu,laT]
theorem qmu(Q:Nat->Nat->Nat)(k:Nat){a:Nat}:∀{b:Nat},a<=b->∃r,stT Q k b=stT Q k a++r
 | 0,h=>⟨[],by simp_all⟩
 | b+1,h=>by
  by_cases e:a=b+1
  ·simp_all
  ·obtain⟨r,H⟩:=qmu Q k (a:=a) (b:=b) Oo
   grind [stT]
theorem qtt(Q:Nat->Nat->Nat)(k:Nat){n:Nat}(h:0<n):(stT Q k n).getD 0 false=true:=by
 obtain⟨r,H⟩:=qmu Q k (a:=1) (b:=n) h
 grind [stT,qfs]
theorem qjo(Q:Nat->Nat->Nat)(k:Nat){n:Nat}(h:i<n):cnt (qay (stT Q k n)) (leT Q (k+1) (i+1)-1)=leT Q k (i+1)-1:=by
 have H:=qd0 (Q:=Q) (k+1) (i:=i+1) Oo;have O:=qaz (Q:=Q) (k+1) (a:=i+1) (b:=n) h;have U:=qi2 (S:=stT Q k n) (qtt Q k Oo) (e:=leT Q (k+1) (i+1)-1) (by rw[qbm];omega);obtain⟨r,W⟩:=qmu Q k (a:=i+1) (b:=n) h
 grind [qbm,qjp]
def wiT(l:Do):Nat:=wMx l l.length
def lvB(Q:Nat->Nat->Nat)(n k:Nat):LB:=
 UInt8.ofNat (wiT (nuT Q k n))::(qc3 (nuT Q k n) (wiT (nuT Q k n))++(if k=0 then[]else qac (qay (stT Q (k-1) n)) (leT Q k n)))
def tlB(Q:Nat->Nat->Nat)(n:Nat):Nat->LB
 | 0=>[]
 | j+1=>lvB Q n (3-j)++tlB Q n j
def qm(Q:Nat->Nat->Nat)(n:Nat):LB:=
 varL (leT Q 0 n)++(varL (leT Q 1 n)++(varL (leT Q 2 n)++(varL (leT Q 3 n)++tlB Q n 4)))
structure TOk(Q:Nat->Nat->Nat)(n:Nat):Prop where
 nle:n<=1048576
 num:∀i k,i<n->k<4->(k≠0->1<=Q i k)/\Q i k<=4194304
 rise:∀i,0<i->i<n->∃k,k<4/\(∀j,j<k->Q i j=Q (i-1) j)/\Q (i-1) k<Q i k
theorem q6z{l:Do}{m:Nat}(h:∀x∈l,qaf x<=m):∀i,wMx l i<=m
 | 0=>An _
 | i+1=>by
  have H:=q6z h i;rw[wMx]
  by_cases hi:i<l.length
  ·have:=h (l.getD i 0) (by rw[Ag,zge hi];exact AP hi);omega
  ·rw[Ag,AS Oo];have:qaf (Option.getD (none:Option Nat) 0)=0:=qdc;omega
theorem q6y(l:Do){i:Nat}:∀{n:Nat},i<n->qaf (l.getD i 0)<=wMx l n
 | 0,h=>by omega
 | n+1,h=>by
  rw[wMx]
  by_cases e:i=n
  ·grind
  ·have:=q6y l (i:=i) (n:=n) Oo;omega
theorem qg5{Q:Nat->Nat->Nat}{k x:Nat}:∀{n:Nat},x∈nuT Q k n->∃i,i<n/\Q i k=x
 | 0,h=>by cases h
 | n+1,h=>by
  rw[nuT]at h
  split at h
  ·rcases AJ.1 h with h|h
   ·obtain⟨i,O,H⟩:=qg5 h;exact⟨i,by omega,H⟩
   ·exact⟨n,by omega,(Ac.1 h).symm⟩
  ·obtain⟨i,O,H⟩:=qg5 h;exact⟨i,by omega,H⟩
section
variable {Q:Nat->Nat->Nat} {n:Nat} (h:TOk Q n)
include h
theorem TOk.wi(H:k<4):wiT (nuT Q k n)<=23:=q6z (λx O=>by
 obtain⟨i,U,rfl⟩:=qg5 O;exact qeu 23 _ (by have:=(h.num i k U H).2;omega) Od) _
theorem TOk.le(k:Nat):leT Q k n<=1048576:=A6 (qsp k n) h.nle
theorem TOk.n0:numL (qm Q n)=(leT Q 0 n,(varL (leT Q 0 n)).length,0):=qa1 (by have:=h.le 0;omega) _
theorem TOk.a1:vAt (qm Q n) 1=(varL (leT Q 0 n)).length:=by rw[vAt,vAt,B8,h.n0,Aq]
theorem TOk.n1:numL ((qm Q n).drop (vAt (qm Q n) 1))=(leT Q 1 n,(varL (leT Q 1 n)).length,0):=by
 rw[h.a1,qm,qf];exact qa1 (by have:=h.le 1;omega) _
theorem TOk.a2:vAt (qm Q n) 2=(varL (leT Q 0 n)).length+(varL (leT Q 1 n)).length:=by rw[vAt,h.n1,h.a1]
theorem TOk.n2:numL ((qm Q n).drop (vAt (qm Q n) 2))=(leT Q 2 n,(varL (leT Q 2 n)).length,0):=by
 rw[h.a2,qm,<-Ax,qf,qf];exact qa1 (by have:=h.le 2;omega) _
theorem TOk.a3:vAt (qm Q n) 3=(varL (leT Q 0 n)).length+(varL (leT Q 1 n)).length+(varL (leT Q 2 n)).length:=by rw[vAt,h.n2,h.a2]
theorem TOk.n3:numL ((qm Q n).drop (vAt (qm Q n) 3))=(leT Q 3 n,(varL (leT Q 3 n)).length,0):=by
 rw[h.a3,qm,<-Ax,<-Ax,qf,qf,qf];exact qa1 (by have:=h.le 3;omega) _
theorem TOk.a4:vAt (qm Q n) 4=(varL (leT Q 0 n)).length+(varL (leT Q 1 n)).length+(varL (leT Q 2 n)).length+(varL (leT Q 3 n)).length:=by rw[vAt,h.n3,h.a3]
theorem TOk.numOk(H:k<4):(numL ((qm Q n).drop (vAt (qm Q n) k))).2.2=0:=
 match k,H with
 | 0,_=>by rw[vAt,B8,h.n0]
 | 1,_=>by rw[h.n1]
 | 2,_=>by rw[h.n2]
 | 3,_=>by rw[h.n3]
theorem TOk.vNum{k:Nat}(H:k<4):vNum (qm Q n) k=leT Q k n:=
 match k,H with
 | 0,_=>by rw[Go.Proofs.YtccmcfpmknpccaaGreatDoor.vNum,vAt,B8,h.n0]
 | 1,_=>by rw[Go.Proofs.YtccmcfpmknpccaaGreatDoor.vNum,h.n1]
 | 2,_=>by rw[Go.Proofs.YtccmcfpmknpccaaGreatDoor.vNum,h.n2]
 | 3,_=>by rw[Go.Proofs.YtccmcfpmknpccaaGreatDoor.vNum,h.n3]
theorem TOk.cnt{k:Nat}:cnt (qay (stT Q k n)) (leT Q (k+1) n)=leT Q k n:=by
 by_cases H:n=0
 ·subst H;rfl
 grind [qys,qtt,qbm,qjp]
theorem TOk.lvLen:(lvB Q n k).length=1+(leT Q k n*wiT (nuT Q k n)+7)/8+(if k=0 then 0 else qa7 (leT Q k n) (leT Q (k-1) n)):=by
 rw[lvB,AH,zla,qby];show(leT Q k n*_+7)/8+_+1=_
 by_cases e:k=0
 ·grind
 ·obtain⟨m,rfl⟩:∃m,k=m+1:=⟨k-1,by omega⟩
  rw[Ab e,Ab e,qee,Bl,h.cnt,qcd,qbm];unfold qa7 qak q6 qi;omega
theorem TOk.tail:k<=4->(qm Q n).drop (tvAt (qm Q n) k)=tlB Q n (4-k):=by
 induction k with
 | zero=>
  intro _;rw[tvAt,h.a4,qm,<-Ax,<-Ax,<-Ax,qf,qf,qf,qf]
 | succ k H=>
  intro hk;have H:=H Oo;obtain⟨j,U⟩:∃j,4-k=j+1:=⟨3-k,by omega⟩
  have O:3-j=k:=by omega
  rw[U,tlB,O]at H;have hw:=h.wi (k:=k) Oo;have W:((qm Q n).getD (tvAt (qm Q n) k) 0).toNat=wiT (nuT Q k n):=by
   have:(qm Q n).getD (tvAt (qm Q n) k) 0=((qm Q n).drop (tvAt (qm Q n) k)).getD 0 0:=by simp
   grind [lvB,qat]
  have Z:tvAt (qm Q n) (k+1)=tvAt (qm Q n) k+(lvB Q n k).length:=by
   rw[tvAt,W,h.vNum Oo,h.lvLen]
   by_cases e:k=0
   ·grind
   ·rw[Ab e,Ab e,h.vNum (k:=k-1) Oo];omega
  rw[Z,<-Ax,H,qf,show 4-(k+1)=j by omega]
theorem TOk.tw{k:Nat}(O:k<4):tw (qm Q n) k=wiT (nuT Q k n):=by
 have H:=h.tail (k:=k) Oo;obtain⟨j,U⟩:∃j,4-k=j+1:=⟨3-k,by omega⟩
 rw[U,tlB,show 3-j=k by omega]at H;have:(qm Q n).getD (tvAt (qm Q n) k) 0=((qm Q n).drop (tvAt (qm Q n) k)).getD 0 0:=by simp
 have W:=h.wi O;rw[Go.Proofs.YtccmcfpmknpccaaGreatDoor.tw,this,H,lvB];exact qat Oo
theorem TOk.tEnd{k:Nat}(H:k<4):tEnd (qm Q n) k=tvAt (qm Q n) k+1+(qc3 (nuT Q k n) (wiT (nuT Q k n))).length:=by
 rw[Go.Proofs.YtccmcfpmknpccaaGreatDoor.tEnd,h.tw H,h.vNum H,qby];rfl
theorem TOk.packed(O:k<4):qg (qm Q n) k=qc3 (nuT Q k n) (wiT (nuT Q k n)):=by
 have H:=h.tail (k:=k) Oo;obtain⟨j,U⟩:∃j,4-k=j+1:=⟨3-k,by omega⟩
 rw[U,tlB,show 3-j=k by omega]at H;rw[qg,h.tEnd O,BL,<-Ax,H,lvB,BG,List.drop_succ_cons,B8,Au,CT]
theorem TOk.bytes(H:k<4)(O:k≠0):qd (qm Q n) k=qac (qay (stT Q (k-1) n)) (leT Q k n):=by
 have U:=h.tail (k:=k) Oo;obtain⟨j,W⟩:∃j,4-k=j+1:=⟨3-k,by omega⟩
 rw[W,tlB,show 3-j=k by omega]at U;obtain⟨m,rfl⟩:∃m,k=m+1:=⟨k-1,by omega⟩
 have Z:qa7 (leT Q (m+1) n) (leT Q m n)=(qac (qay (stT Q m n)) (leT Q (m+1) n)).length:=by
  rw[qee,h.cnt,qcd,qbm];rfl
 rw[qd,qge,Ab O,h.vNum H,h.vNum (k:=m+1-1) Oo,BL,Bl,Z,h.tEnd H,<-Ax,<-Ax,U,lvB,BG,List.drop_succ_cons,B8,Au,qf,Ab O,Bl,CT]
end
theorem qkg(Q:Nat->Nat->Nat)(k:Nat){e:Nat}:∀{n:Nat},e<leT Q k n->∃i,i<n/\frU Q i k=true/\leT Q k i=e
 | 0,h=>by cases h
 | n+1,h=>by
  cases H:frU Q n k with
  | true=>
   rw[qa0 H]at h
   by_cases W:e=leT Q k n
   ·exact⟨n,by omega,H,W.symm⟩
   ·obtain⟨i,Z,O,U⟩:=qkg Q k (e:=e) (n:=n) Oo;exact⟨i,by omega,O,U⟩
  | false=>
   rw[qbc H]at h;obtain⟨i,Z,O,U⟩:=qkg Q k h;exact⟨i,by omega,O,U⟩
theorem q6n(Q:Nat->Nat->Nat)(k:Nat){n:Nat}(h:i<n)(H:frU Q i (k+1)=true):(stT Q k n).getD (leT Q (k+1) i) false=frU Q i k:=by
 obtain⟨r,O⟩:=qmu Q k (a:=i+1) (b:=n) h
 grind [stT,qbm]
theorem qzh{n e:Nat}(h:∀i,i<n->Q i k<18446744073709551616)(H:e<leT Q k n):(nuT Q k n).getD e 0<2 ^ wiT (nuT Q k n):=by
 have U:=q6y (nuT Q k n) (i:=e) (n:=(nuT Q k n).length) H;have W:(nuT Q k n).getD e 0∈nuT Q k n:=by
  rw[Ag,zge (show e<(nuT Q k n).length from H)];simp
 obtain⟨i,Z,h4⟩:=qg5 W;have O:=h i Z;rw[h4]at O;exact AE (ql7 O) (AQ Od U)
section
variable {Q:Nat->Nat->Nat} {n:Nat} (h:TOk Q n)
include h
theorem TOk.big(H:k<4):∀i,i<n->Q i k<18446744073709551616:=λi hi=>by have:=(h.num i k hi H).2;omega
theorem TOk.tX{k e:Nat}(H:k<4)(O:e<leT Q k n):tX (qm Q n) k e=(nuT Q k n).getD e 0:=by
 rw[Go.Proofs.YtccmcfpmknpccaaGreatDoor.tX,h.packed H,h.tw H];exact qja O (qzh (h.big H) O)
theorem TOk.len(H:k<4):tvAt (qm Q n) k<(qm Q n).length/\tvAt (qm Q n) (k+1)<=(qm Q n).length:=by
 have O:=h.tail (k:=k) Oo;have W:=h.tail (k:=k+1) Oo;obtain⟨j,Z⟩:∃j,4-k=j+1:=⟨3-k,by omega⟩
 rw[Z,tlB]at O;rw[show 4-(k+1)=j by omega]at W;have U:=Ae List.length O;rw[zld,zla,show 3-j=k by omega,h.lvLen]at U;refine⟨by omega,?_⟩;rw[qge,h.tEnd H,qby];show tvAt (qm Q n) k+1+(leT Q k n*_+7)/8+_<=_
 by_cases e:k=0
 ·grind
 ·rw[Ab e]at U|-;rw[h.vNum H,h.vNum (k:=k-1) Oo];omega
theorem TOk.tE:(tE (qm Q n)).2=0:=by
 have h1:(errF (tcF (qm Q n)) 4).2=0:=qbe λk H=>by
  have e0:numE (qm Q n) k 1048576=(0,0):=qg6 (h.numOk H) (by rw[h.vNum H];exact h.le k);rw[tcF,Ab (by simp_all),Ab];rintro⟨U,O⟩;obtain⟨m,rfl⟩:∃m,k=m+1:=⟨k-1,by omega⟩
  rw[Bl,h.vNum H,h.vNum (k:=m) Oo]at O;have W:=qn5 (Q:=Q) m n
  rcases O with O|O
  ·omega
  ·refine O ⟨λZ=>?_,λZ=>by omega⟩
   by_cases e:n=0
   ·subst e;rfl
   grind [qd0]
 have h2:(errF (tvF (qm Q n)) 4).2=0:=qbe λk H=>by
  obtain⟨U,O⟩:=h.len H;have W:=h.wi H;rw[tvF,Ab Oo,h.tw H,Ab Oo,Ab Oo]
 have h3:=Ae List.length (h.tail (k:=4) znr);rw[zld,Cw,tlB,C4]at h3;rw[Go.Proofs.YtccmcfpmknpccaaGreatDoor.tE,Ab Oo,Ab Oo,Ab Oo]
theorem TOk.vec(H:k+1<4):vOk (qd (qm Q n) (k+1))=true/\vN (qd (qm Q n) (k+1))=leT Q (k+1) n/\vM (qd (qm Q n) (k+1))=leT Q k n/\
  vD (qd (qm Q n) (k+1))=qay (stT Q k n)/\voE (qd (qm Q n) (k+1))=(0,0):=by
 have U:=h.le (k+1);have hn:leT Q (k+1) n<=67108864:=by omega
 have hd:(qay (stT Q k n)).length=upN (leT Q (k+1) n) 8:=by rw[qcd,qbm]
 have O:¬PadB (qay (stT Q k n)) (leT Q (k+1) n):=by grind [qbm,qn3]
 rw[h.bytes H Oo,Bl];exact⟨qjx hn hd,qci hn,by rw[qes hn,h.cnt],qgh hn hd,q5q hn hd O⟩
theorem TOk.bit{e:Nat}(H:k+1<4)(U:e<leT Q (k+1) n):bitN ((qd (qm Q n) (k+1)).drop 8) e=laT (stT Q k n) e:=by
 obtain⟨_,W,_,O,_⟩:=h.vec H;have Z:=Ae (λd=>bitN d e) O
 grind [vD,qir,upN,qfu,qbm]
theorem TOk.vcE{k:Nat}(H:k+1<4):vcE (qm Q n) (k+1)=(0,0):=by
 obtain⟨O,U,W,h4,Z⟩:=h.vec H;refine qacz ?_ (by rw[Z]) λg=>?_
 ·simp only[tVec,AB,decide_eq_true_eq];exact⟨⟨O,by rw[U,h.vNum H]⟩,by rw[W,Bl,h.vNum Oo]⟩
 ·rw[h.vNum H]at g|-;rw[h.bit H Oo,laT,Af (by rw[qbm];omega)]
theorem TOk.order{e:Nat}(hk:k<4)(O:0<e)(he:e<leT Q k n)(U:k=0\/bitN ((qd (qm Q n) k).drop 8) (e-1)≠1):(nuT Q k n).getD (e-1) 0<(nuT Q k n).getD e 0:=by
 obtain⟨i,W,Z,H⟩:=qkg Q k he;have hi:0<i:=by
  rcases B0 i with e|e
  ·subst e;rw[<-H]at O;exact(CX 0 O).elim
  ·exact e
 have g1:=qko (Q:=Q) k (i:=i) (n:=n) W;rw[qa0 Z,Bl,H]at g1;have g2:=qko (Q:=Q) k (i:=i-1) (n:=n) Oo;rw[BE hi,H]at g2;rw[g1,g2];obtain⟨m,r1,r2,r3⟩:=h.rise i hi W;have hm:k<=m:=by
  by_cases e0:k=0
  ·omega
  ·have U:=U.resolve_left e0;obtain⟨p,rfl⟩:∃p,k=p+1:=⟨k-1,by omega⟩
   rw[h.bit hk Oo,laT,qbm,Ab Oo,BE O,<-H,q6n Q p W Z]at U
   grind [qfr]
 grind [qxy]
end
theorem q1f{l:Do}{w:Nat}(h:∀i,i<l.length->l.getD i 0<2 ^ w):unpN (qc3 l w) l.length w=l:=by
 apply List.ext_getElem
 all_goals grind [unpN,qja]
section
variable {Q:Nat->Nat->Nat} {n:Nat} (h:TOk Q n)
include h
theorem TOk.lvE{k:Nat}(H:k<4):(lvE (qm Q n) k).2=0:=by
 refine qabt ?_ ?_ ?_ ?_
 ·refine BI λg=>?_;have U:=(qzm _ _ _).1 g;rw[h.packed H,h.tw H,h.vNum H]at U;exact qn9 _ _ U
 ·rw[h.packed H,h.tw H,h.vNum H,show leT Q k n=(nuT Q k n).length from rfl,q1f λi hi=>qzh (h.big H) hi];rfl
 ·by_cases e:k=0
  ·exact .inl e
  ·obtain⟨m,rfl⟩:∃m,k=m+1:=⟨k-1,by omega⟩
   exact .inr (by rw[h.vcE H])
 ·intro e O;rw[h.vNum H]at O;have W:(nuT Q k n).getD e 0∈nuT Q k n:=by
   rw[Ag,zge (show e<(nuT Q k n).length from O)];simp
  obtain⟨i,Z,h2⟩:=qg5 W;obtain⟨h3,h4⟩:=h.num i k Z H;rw[h2]at h3 h4;rw[qabv]
  ·rw[h.tX H O];omega
  ·rintro⟨U,g2,g3⟩;rw[h.tX H O,h.tX H Oo]at g3;have:=h.order H U O g2;omega
theorem TOk.toE:(toE (qm Q n)).2=0:=qacs h.tE λ_ H=>h.lvE H
theorem TOk.fresh(hi:i<n):frU Q i 3=true:=by
 by_cases H:i=0
 ·grind [qfs]
 ·obtain⟨k,O,U,W⟩:=h.rise i Oo hi
  grind [frU]
theorem TOk.all:∀{i:Nat},i<=n->leT Q 3 i=i
 | 0,_=>rfl
 | i+1,hi=>by rw[qa0 (h.fresh hi),TOk.all Oo]
theorem TOk.up(hi:i<n):∀{j:Nat},j<4->tUp (qm Q n) i j=leT Q (3-j) (i+1)-1
 | 0,_=>by rw[tUp,h.all Oo];rfl
 | j+1,hj=>by
  have O:=TOk.up hi (j:=j) Oo;obtain⟨k,H⟩:∃k,3-j=k+1:=⟨2-j,by omega⟩
  have U:=qju h.toE (3-j) Oo Oo;have hp:=qd0 (Q:=Q) (k+1) (i:=i+1) Oo;have hm:=qaz (Q:=Q) (k+1) (a:=i+1) (b:=n) hi;rw[tUp,O,U.rank _ (by rw[h.vNum Oo,H];omega),H];obtain⟨_,W,_,Z,_⟩:=h.vec (k:=k) Oo;rw[<-qr5 _ _ (by rw[W];omega),Z,qjo Q k hi,show 3-(j+1)=k by omega]
theorem TOk.tNum{i k:Nat}(hi:i<n)(H:k<4):tNum (qm Q n) i k=Q i k:=by
 have O:=qd0 (Q:=Q) k (i:=i+1) Oo;have U:=qaz (Q:=Q) k (a:=i+1) (b:=n) hi;have W:=h.wi H;rw[Go.Proofs.YtccmcfpmknpccaaGreatDoor.tNum,h.up hi Oo,show 3-(3-k)=k by omega,qs4 _ _ _ (by rw[h.tw H];omega)];exact(h.tX H (e:=leT Q k (i+1)-1) Oo).trans (qko k hi)
end
def bndT(Q:Nat->Nat->Nat)(k p:Nat):Nat->Nat
 | 0=>0
 | i+1=>if leT Q k (i+1)<=p then i+1 else bndT Q k p i
section
variable {Q:Nat->Nat->Nat}
theorem qc2(k p:Nat):∀n,bndT Q k p n<=n
 | 0=>Ao _
 | i+1=>by
  rw[bndT]
  split
  ·exact Ao _
  ·exact Nat.le_succ_of_le (qc2 k p i)
theorem qbk(k p:Nat):∀{n i:Nat},i<n->(i<bndT Q k p n↔leT Q k (i+1)<=p)
 | 0,_,h=>absurd h (Cf _)
 | n+1,i,h=>by
  rw[bndT]
  split
  ·rename_i g
   have:=qaz (Q:=Q) k (a:=i+1) (b:=n+1) h;exact⟨λ_=>by omega,λ_=>h⟩
  ·rename_i g
   by_cases e:i=n
   ·subst e;have:=qc2 (Q:=Q) k p i;exact⟨λ_=>by omega,λh=>absurd h g⟩
   ·exact qbk k p Oo
theorem qfk(k:Nat){p q:Nat}(h:p<=q)(n:Nat):bndT Q k p n<=bndT Q k q n:=by
 rcases AM (bndT Q k q n) (bndT Q k p n)with g|g
 ·have H:=qc2 (Q:=Q) k p n;have O:=(qbk (Q:=Q) k p (n:=n) (i:=bndT Q k q n) Oo).1 g;have U:=(qbk (Q:=Q) k q (n:=n) (i:=bndT Q k q n) Oo).2 Oo;omega
 ·exact g
theorem qne(k n:Nat):bndT Q k 0 n=0:=by
 rcases B0 (bndT Q k 0 n)with g|g
 all_goals grind [qc2,qbk,qd0]
theorem qlg(k:Nat){p n:Nat}(h:leT Q k n<=p):bndT Q k p n=n:=by
 cases n<;>grind [bndT]
def chT(Q:Nat->Nat->Nat)(n k p:Nat):Nat:=leT Q (k+1) (bndT Q k p n)
theorem qkb(k p n:Nat):bndT Q (k+1) (chT Q n k p) n=bndT Q k p n:=by
 have U:=qc2 (Q:=Q) k p n;have W:=qc2 (Q:=Q) (k+1) (chT Q n k p) n;refine Nat.le_antisymm ?_ ?_
 ·refine CO.1 λg=>?_;have H:=(qbk (Q:=Q) (k+1) (chT Q n k p) (n:=n) (i:=bndT Q k p n) Oo).1 g;have O:¬leT Q k (bndT Q k p n+1)<=p:=λe=>CX _ ((qbk (Q:=Q) k p (n:=n) (i:=bndT Q k p n) Oo).2 e)
  have Z:frU Q (bndT Q k p n) k=true:=by
   cases e:frU Q (bndT Q k p n) k with
   | true=>rfl
   | false=>
    exfalso
    have h6:=qbc (Q:=Q) e;have h7:=(qfr e).1;have h8:=(qbk (Q:=Q) k p (n:=n) (i:=bndT Q k p n-1) Oo).1 Oo
    grind
  grind [qa0,qnv,chT]
 ·refine CO.1 λg=>?_;have H:¬leT Q (k+1) (bndT Q (k+1) (chT Q n k p) n+1)<=chT Q n k p:=λe=>CX _ ((qbk (Q:=Q) (k+1) (chT Q n k p) (n:=n) (i:=bndT Q (k+1) (chT Q n k p) n) Oo).2 e)
  have O:=qaz (Q:=Q) (k+1) (a:=bndT Q (k+1) (chT Q n k p) n+1) (b:=bndT Q k p n) g;exact H O
def agB(P:Nat->Int)(k x:Nat):Bool:=decide (P k<0)||decide (P k=(x:Int))
def agF(P:Nat->Int)(Q:Nat->Nat->Nat)(i:Nat):Nat->Nat->Bool
 | _,0=>true
 | k,m+1=>agB P k (Q i k)&&agF P Q i (k+1) m
def maT(P:Nat->Int)(Q:Nat->Nat->Nat)(k a b:Nat):Do:=((List.range b).drop a).filter λi=>agF P Q i k (4-k)
theorem qz7(H:a<=b)(O:b<=c):(List.range c).drop a=(List.range b).drop a++(List.range c).drop b:=by
 have e:List.range c=List.range b++(List.range c).drop b:=by
  conv=>lhs;rw[<-B4 b (List.range c)]
  simp_all
 grind
theorem q8c(P:Nat->Int)(k:Nat)(H:a<=b)(O:b<=c):maT P Q k a c=maT P Q k a b++maT P Q k b c:=by
 grind [maT,qz7]
theorem q8d(P:Nat->Int)(k:Nat)(h:b<=a):maT P Q k a b=[]:=by
 grind [maT,List.drop_eq_nil_of_le]
theorem qj1:i∈(List.range b).drop a↔a<=i/\i<b:=by
 rw[AW]
 constructor
 ·grind
 ·rintro⟨H,O⟩;exact⟨i-a,by simp_all⟩
theorem qfw(P:Nat->Int){p n:Nat}(W:k<4):maT P Q k (bndT Q k p n) (bndT Q k (p+1) n)=if agB P k ((nuT Q k n).getD p 0)=true then maT P Q (k+1) (bndT Q k p n) (bndT Q k (p+1) n)else[]:=by
 have hn:=qc2 (Q:=Q) k (p+1) n;have H:∀i∈(List.range (bndT Q k (p+1) n)).drop (bndT Q k p n),agF P Q i k (4-k)=(agB P k ((nuT Q k n).getD p 0)&&agF P Q i (k+1) (4-(k+1))):=by
  intro i hi;obtain⟨Z,U⟩:=qj1.1 hi;have h3:=(qbk (Q:=Q) k (p+1) (n:=n) (i:=i) Oo).1 U;have h4:¬leT Q k (i+1)<=p:=λe=>by have:=(qbk (Q:=Q) k p (n:=n) (i:=i) Oo).2 e;omega
  have O:=qko (Q:=Q) k (i:=i) (n:=n) Oo;rw[show leT Q k (i+1)-1=p by omega]at O;rw[O,show 4-k=(4-(k+1))+1 by omega];rfl
 rw[maT,CV H]
 split
 ·rename_i h;rw[h];rfl
 simp_all
end
section
variable {Q:Nat->Nat->Nat}
theorem qn4(k:Nat){a:Nat}:∀{b:Nat},a<=b->leT Q (k+1) a=leT Q (k+1) b->leT Q k a=leT Q k b
 | 0,h,_=>by simp_all
 | b+1,h,U=>by
  by_cases e:a=b+1
  ·rw[e]
  ·have W:=qaz (Q:=Q) (k+1) (a:=a) (b:=b) Oo;cases H:frU Q b (k+1)with
   | true=>rw[qa0 H]at U;omega
   | false=>
    have O:frU Q b k=false:=by
     cases O:frU Q b k with
     | true=>rw[qnv O (m:=k+1) (BX k)]at H;cases H
     | false=>rfl
    rw[qbc O];exact qn4 k Oo (by rw[U,qbc H])
theorem q5x{p n s:Nat}(hs:s<leT Q (k+1) n)(O:laT (stT Q k n) s=1)(hc:cnt (qay (stT Q k n)) s=p):s+1=chT Q n k (p+1):=by
 obtain⟨i,hi,hf,he⟩:=qkg Q (k+1) hs;have h1:=qa0 (Q:=Q) hf;rw[he]at h1;have h2:=qjo Q k hi;rw[h1,Bl,hc]at h2;have h3:=qd0 (Q:=Q) k (i:=i+1) Oo;have hp:leT Q k (i+1)=p+1:=by omega
 have U:=(qbk (Q:=Q) k (p+1) (n:=n) (i:=i) hi).2 Oo;have W:=qc2 (Q:=Q) k (p+1) n;have ad:=qaz (Q:=Q) (k+1) (a:=i+1) (b:=bndT Q k (p+1) n) U;have ae:=qaz (Q:=Q) (k+1) (a:=bndT Q k (p+1) n) (b:=n) W;rw[chT];unfold laT at O;rw[qbm]at O
 by_cases e:s+1=leT Q (k+1) n
 ·omega
 ·rw[Ab e]at O;have hg:(stT Q k n).getD (s+1) false=true:=by
   grind
  obtain⟨H,Z,aa,ab⟩:=qkg Q (k+1) (e:=s+1) (n:=n) Oo;have h5:=q6n Q k Z aa;rw[ab,hg]at h5;have ac:i+1<=H:=by
   refine CO.1 λg=>?_;have:=qaz (Q:=Q) (k+1) (a:=H) (b:=i) Oo;omega
  have h6:=qn4 (Q:=Q) k ac Oo;have h7:=qa0 (Q:=Q) h5.symm;have h8:¬H<bndT Q k (p+1) n:=λg=>by grind [qbk]
  have h9:∀j,j<H->j<bndT Q k (p+1) n:=λj hj=>(qbk (Q:=Q) k (p+1) (n:=n) (i:=j) Oo).2 (by
   have:=qaz (Q:=Q) k (a:=j+1) (b:=H) hj;omega)
  have af:bndT Q k (p+1) n=H:=by
   have:=h9 (H-1) Oo;omega
  grind
theorem q2j(k n:Nat):chT Q n k 0=0:=by rw[chT,qne];rfl
theorem qh8(k n:Nat){p q:Nat}(h:p<=q):chT Q n k p<=chT Q n k q:=qaz (k+1) (qfk k h n)
theorem qwz(k n p:Nat):chT Q n k p<=leT Q (k+1) n:=qaz (k+1) (qc2 k p n)
theorem qaa5{n e:Nat}(U:e<leT Q (k+1) n):∃i,i<n/\frU Q i (k+1)=true/\leT Q (k+1) i=e/\leT Q k (i+1)=cnt (qay (stT Q k n)) e+1:=by
 obtain⟨i,hi,H,O⟩:=qkg Q (k+1) U;refine⟨i,hi,H,O,?_⟩;have W:=qa0 (Q:=Q) H;rw[O]at W;have Z:=qjo Q k hi
 grind [qd0]
theorem qac8{n e p:Nat}(H:e<leT Q (k+1) n):cnt (qay (stT Q k n)) e=p↔chT Q n k p<=e/\e<chT Q n k (p+1):=by
 obtain⟨i,hi,O,Z,h1⟩:=qaa5 H;have h2:=qa0 (Q:=Q) O;have hd:∀p,(e<chT Q n k p↔cnt (qay (stT Q k n)) e<p):=λp=>by
  have U:=qbk (Q:=Q) k p hi;rw[chT]
  constructor
  ·intro g;have:i<bndT Q k p n:=by
    refine Nat.not_le.1 λW=>?_;have:=qaz (Q:=Q) (k+1) (a:=bndT Q k p n) (b:=i) W;omega
   omega
  ·intro g;have:=U.2 Oo;have:=qaz (Q:=Q) (k+1) (a:=i+1) (b:=bndT Q k p n) this;omega
 grind
theorem TOk.sib{n e p:Nat}(h:TOk Q n)(H:k+1<4)(U:chT Q n k p<=e)(h2:e+1<chT Q n k (p+1)):(nuT Q (k+1) n).getD e 0<(nuT Q (k+1) n).getD (e+1) 0:=by
 have W:=qwz (Q:=Q) k n (p+1);have Z:=(qac8 (Q:=Q) (k:=k) (n:=n) (e:=e) (p:=p) Oo).2 ⟨U,by omega⟩;refine h.order (k:=k+1) (e:=e+1) H Oo Oo (.inr λO=>?_);rw[Bl,h.bit H Oo]at O;have:=q5x (Q:=Q) (k:=k) (n:=n) (s:=e) (p:=p) Oo O Z;omega
theorem TOk.top{n e:Nat}(h:TOk Q n)(H:e+1<leT Q 0 n):(nuT Q 0 n).getD e 0<(nuT Q 0 n).getD (e+1) 0:=
 h.order (k:=0) (e:=e+1) Od Oo H (.inl rfl)
end
theorem q5z{d H:LB}:∀{n:Nat},(∀t,t<n->bitN d t=bitN H t)->cnt d n=cnt H n
 | 0,_=>rfl
 | n+1,h=>by rw[cnt,cnt,q5z λt O=>h t Oo,h n Oo]
theorem q9t{s:Nat}(H:cnt d s<=k)(O:k<cnt d (s+1)):bitN d s=1/\cnt d s=k:=by
 grind [qgj,cnt]
section
variable {Q:Nat->Nat->Nat} {n:Nat} (h:TOk Q n)
include h
theorem TOk.cntD{s:Nat}(H:k+1<4)(O:s<=leT Q (k+1) n):Go.Proofs.YtccmcfpmknpccaaGreatDoor.cnt ((qd (qm Q n) (k+1)).drop 8) s=Go.Proofs.YtccmcfpmknpccaaGreatDoor.cnt (qay (stT Q k n)) s:=
 q5z λt U=>by rw[h.bit H Oo,qfu (by rw[qbm];omega)]
theorem TOk.child{p s:Nat}(H:k+1<4)(O:s<leT Q (k+1) n)(Z:Go.Proofs.YtccmcfpmknpccaaGreatDoor.cnt ((qd (qm Q n) (k+1)).drop 8) s<=p)(h2:p<Go.Proofs.YtccmcfpmknpccaaGreatDoor.cnt ((qd (qm Q n) (k+1)).drop 8) (s+1)):s+1=chT Q n k (p+1):=by
 obtain⟨U,W⟩:=q9t Z h2;rw[h.bit H O]at U;rw[h.cntD H Oo]at W;exact q5x O U W
theorem TOk.ones(H:k+1<4):Go.Proofs.YtccmcfpmknpccaaGreatDoor.cnt ((qd (qm Q n) (k+1)).drop 8) (leT Q (k+1) n)=leT Q k n:=by
 rw[h.cntD H znr];exact h.cnt
theorem TOk.sibs{p:Nat}(H:k+1<4):∀{b:Nat},chT Q n k p<=a->a<b->b<chT Q n k (p+1)->(nuT Q (k+1) n).getD a 0<(nuT Q (k+1) n).getD b 0
 | 0,_,O,_=>absurd O (Cf _)
 | b+1,U,O,W=>by
  have Z:=h.sib (k:=k) (e:=b) (p:=p) H Oo W
  by_cases e:a=b
  ·simp_all
  ·have:=TOk.sibs H (b:=b) U Oo Oo;omega
theorem TOk.tops:∀{b:Nat},a<b->b<leT Q 0 n->(nuT Q 0 n).getD a 0<(nuT Q 0 n).getD b 0
 | 0,H,_=>absurd H (Cf _)
 | b+1,H,O=>by
  have U:=h.top (e:=b) O
  by_cases e:a=b
  ·simp_all
  ·have:=TOk.tops (b:=b) Oo Oo;omega
end
section
variable {Q:Nat->Nat->Nat} {P:Nat->Int} {n:Nat}
def lvM(P:Nat->Int)(Q:Nat->Nat->Nat)(n k a b:Nat):Do:=maT P Q k (bndT Q k a n) (bndT Q k b n)
theorem qi3(h:b<=a):lvM P Q n k a b=[]:=q8d P k (qfk k h n)
theorem ql9(H:a<=b)(O:b<=c):lvM P Q n k a c=lvM P Q n k a b++lvM P Q n k b c:=q8c P k (qfk k H n) (qfk k O n)
theorem qp6{p:Nat}(H:k+1<4):lvM P Q n k p (p+1)=if agB P k ((nuT Q k n).getD p 0)=true then lvM P Q n (k+1) (chT Q n k p) (chT Q n k (p+1))else[]:=by
 grind [lvM,qfw,qkb]
theorem qif{k a:Nat}(O:k<4):∀{b:Nat},(∀e,a<=e->e<b->agB P k ((nuT Q k n).getD e 0)=false)->lvM P Q n k a b=[]
 | 0,_=>qi3 Oo
 | b+1,h=>by
  by_cases H:a<=b
  ·rw[ql9 H (BX b),qif O λe U W=>h e U Oo,Bt,lvM,qfw P O,h b H (Ca b)];rfl
  ·exact qi3 Oo
theorem qsv{e x:Nat}(O:k<4)(hx:P k=(x:Int))(hr:∀i j,a<=i->i<j->j<b->(nuT Q k n).getD i 0<(nuT Q k n).getD j 0)(h1:a<=e)(h2:e<=b)(U:∀i,a<=i->i<e->(nuT Q k n).getD i 0<x)(aa:e<b->x<=(nuT Q k n).getD e 0):
  lvM P Q n k a b=if e<b/\(nuT Q k n).getD e 0=x then lvM P Q n k e (e+1)else[]:=by
 have W:∀i,(nuT Q k n).getD i 0≠x->agB P k ((nuT Q k n).getD i 0)=false:=(by grind [agB])
 split
 ·rename_i h
  rw[ql9 (b:=e) h1 h2,qif O λi Z H=>W i (by have:=U i Z H;omega),Bt,ql9 (b:=e+1) (BX e) h.1,qif (a:=e+1) O λi Z H=>W i (by have:=hr e i h1 Oo H;omega),By]
 ·rename_i h
  refine qif O λi Z H=>W i λhi=>?_
  rcases AM i e with g|g
  ·grind
  ·have h3:x<=(nuT Q k n).getD e 0:=(by omega)
   rcases CA g with g|g
   all_goals grind
theorem TOk.bnd3(h:TOk Q n){p:Nat}(H:p<=n):bndT Q 3 p n=p:=by
 have O:=qc2 (Q:=Q) 3 p n;refine Nat.le_antisymm ?_ ?_
 ·refine CO.1 λg=>?_;have:=(qbk (Q:=Q) 3 p (n:=n) (i:=p) Oo).1 g;rw[h.all Oo]at this;omega
 ·refine CO.1 λg=>?_;have:=(qbk (Q:=Q) 3 p (n:=n) (i:=bndT Q 3 p n) Oo).2 (by rw[h.all Oo];exact g);omega
theorem TOk.leaf(h:TOk Q n){e:Nat}(H:e<n):lvM P Q n 3 e (e+1)=if agB P 3 ((nuT Q 3 n).getD e 0)=true then[e]else[]:=by
 rw[lvM,qfw P Od,h.bnd3 Oo,h.bnd3 Oo]
 split
 ·rw[maT,Cg,BJ Js,AY Js,Bt];rfl
 ·rfl
theorem TOk.lvM_all(_:TOk Q n):lvM P Q n 0 0 (leT Q 0 n)=maT P Q 0 0 n:=by
 grind [lvM,qne,qlg]
end
def bsr(p:Nat->Bool):Nat->Nat->Nat->Nat
 | 0,a,_=>a
 | f+1,a,b=>if a<b then(if p ((a+b)/2)=true then bsr p f a ((a+b)/2)else bsr p f ((a+b)/2+1) b)else a
theorem qkc{p:Nat->Bool}:∀{f a b:Nat},a<=b->a<=bsr p f a b/\bsr p f a b<=b
 | 0,a,b,h=>⟨Ao _,h⟩
 | f+1,a,b,h=>by
  rw[bsr]
  split
  ·split
   ·have:=qkc (p:=p) (f:=f) (a:=a) (b:=(a+b)/2) Oo;omega
   ·have:=qkc (p:=p) (f:=f) (a:=(a+b)/2+1) (b:=b) Oo;omega
  ·omega
theorem qh6{p:Nat->Bool}{n:Nat}(U:∀i j,i<=j->j<n->p i=true->p j=true):∀{f a b:Nat},a<=b->b<=n->b-a<=f->(∀i,i<a->p i=false)->(∀i,b<=i->i<n->p i=true)->
  (∀i,i<bsr p f a b->p i=false)/\(∀i,bsr p f a b<=i->i<n->p i=true)
 | 0,a,b,h,_,W,H,O=>by
  obtain rfl:a=b:=by omega
  exact⟨H,O⟩
 | f+1,a,b,h,hn,W,H,O=>by
  rw[bsr]
  split
  ·rename_i Z
   split
   ·rename_i hm
    exact qh6 U Oo Oo Oo H (by grind)
   ·rename_i hm
    refine qh6 U Oo hn Oo (λi hi=>?_) O
    grind
  grind
abbrev WS:=(Nat->Nat)×(Nat->Nat)
abbrev WR:=List (Nat×(Nat->Nat))×WS
def updN(f:Nat->Nat)(k v:Nat):Nat->Nat:=λj=>if j=k then v else f j
def goL(f:Nat->WS->WR):Nat->Nat->WS->WR
 | 0,_,s=>([],s)
 | m+1,i,s=>((f i s).1++(goL f m (i+1) (f i s).2).1,(goL f m (i+1) (f i s).2).2)
structure LvD where
 N:Nat->Nat
 nu:Nat->Nat->Nat
 ch:Nat->Nat->Nat×Nat
def LvD.sr(T:LvD)(k lo hi:Nat)(x:Int):Nat:=lo+bsr (λi=>decide (x<=(T.nu k (lo+i):Int))) (hi-lo) 0 (hi-lo)
def LvD.win(T:LvD)(P:Nat->Int)(k lo hi:Nat):Nat×Nat:=
 if P k<0 then(lo,hi)else if T.sr k lo hi (P k)<hi/\(T.nu k (T.sr k lo hi (P k)):Int)=P k then(T.sr k lo hi (P k),T.sr k lo hi (P k)+1)else(T.sr k lo hi (P k),T.sr k lo hi (P k))
def lvS(T:LvD)(P:Nat->Int)(f:Nat->WS->WR)(k lo hi:Nat)(s:WS):WR:=
 if min hi (T.N k)<=max lo (s.1 k)then([],s)else
 goL (λi s=>f i (s.1,updN s.2 k (T.nu k i))) ((T.win P k (max lo (s.1 k)) (min hi (T.N k))).2-(T.win P k (max lo (s.1 k)) (min hi (T.N k))).1) (T.win P k (max lo (s.1 k)) (min hi (T.N k))).1 (updN s.1 k (min hi (T.N k)),s.2)
def lvG(T:LvD)(P:Nat->Int):Nat->Nat->Nat->Nat->WS->WR
 | 0,k,lo,hi,s=>lvS T P (λi s=>([(i,s.2)],s)) k lo hi s
 | d+1,k,lo,hi,s=>lvS T P (λi s=>lvG T P d (k+1) (T.ch k i).1 (T.ch k i).2 s) k lo hi s
theorem LvD.sr_le(T:LvD)(k:Nat)(x:Int)(h:lo<=hi):lo<=T.sr k lo hi x/\T.sr k lo hi x<=hi:=by
 grind [qkc,LvD.sr]
theorem LvD.win_le(T:LvD)(P:Nat->Int)(k:Nat)(h:lo<=hi):lo<=(T.win P k lo hi).1/\(T.win P k lo hi).1<=(T.win P k lo hi).2/\(T.win P k lo hi).2<=hi:=by
 have:=T.sr_le k (P k) h
 grind [LvD.win]
theorem LvD.sr_spec(T:LvD)(k:Nat)(x:Int)(h:lo<=hi)(O:∀i j,lo<=i->i<j->j<hi->T.nu k i<T.nu k j):
  (∀i,lo<=i->i<T.sr k lo hi x->(T.nu k i:Int)<x)/\(T.sr k lo hi x<hi->x<=(T.nu k (T.sr k lo hi x):Int)):=by
 have U:=qh6 (p:=λi=>decide (x<=(T.nu k (lo+i):Int))) (n:=hi-lo) (λi j W hj H=>by
  have H:=BC H;refine AI ?_
  by_cases e:i=j
  ·simp_all
  ·have:=O (lo+i) (lo+j) Oo Oo Oo;omega) (f:=hi-lo) (a:=0) (b:=hi-lo) Oo Oo Oo Oo Oo
 unfold LvD.sr;refine⟨λi Z h2=>?_,λZ=>?_⟩
 ·have:=of_decide_eq_false (U.1 (i-lo) Oo)
  simp_all
 grind
section
variable {Q:Nat->Nat->Nat} {n:Nat}
def dT(Q:Nat->Nat->Nat)(n k a:Nat):Nat->Nat
 | 0=>a
 | j+1=>chT Q n (k+j) (dT Q n k a j)
theorem qpo(k:Nat){a b:Nat}(h:a<=b):∀j,dT Q n k a j<=dT Q n k b j
 | 0=>h
 | j+1=>qh8 _ _ (qpo k h j)
theorem qll(k a:Nat):∀j,dT Q n (k+1) (chT Q n k a) j=dT Q n k a (j+1)
 | 0=>rfl
 | j+1=>by rw[dT,qll k a j,dT,show k+1+j=k+(j+1)by omega,dT,dT]
theorem qx4{P:Nat->Int}{k lo hi:Nat}{f:Nat->WS->WR}{Inv:Nat->WS->Prop}(h:∀i s,lo<=i->i<hi->Inv i s->(f i s).1.map (·.1)=lvM P Q n k i (i+1)/\Inv (i+1) (f i s).2):
  ∀(m i:Nat) (s:WS),lo<=i->i+m<=hi->Inv i s->(goL f m i s).1.map (·.1)=lvM P Q n k i (i+m)/\Inv (i+m) (goL f m i s).2
 | 0,i,s,_,_,H=>⟨(qi3 znr).symm,H⟩
 | m+1,i,s,O,W,H=>by
  obtain⟨Z,U⟩:=h i s O Oo H;obtain⟨g3,g4⟩:=qx4 h m (i+1) _ Oo Oo U
  grind [goL,ql9]
structure CanD(T:LvD)(Q:Nat->Nat->Nat)(n:Nat):Prop where
 N:∀k,k<4->T.N k=leT Q k n
 nu:∀k e,k<4->e<leT Q k n->T.nu k e=(nuT Q k n).getD e 0
 ch:∀k i,k+1<4->i<leT Q k n->T.ch k i=(chT Q n k i,chT Q n k (i+1))
theorem qy9(_:TOk Q n){T:LvD}(hT:CanD T Q n){P:Nat->Int}{s:WS}{f:Nat->WS->WR}(W:k<4)(H:a<=b)(hb:b<=leT Q k n)(hr:∀i j,a<=i->i<j->j<b->(nuT Q k n).getD i 0<(nuT Q k n).getD j 0)(hp:∀j,k+j<4->s.1 (k+j)<=dT Q n k a j)(hf:∀i s,a<=i->i<b->agB P k ((nuT Q k n).getD i 0)=true->(∀j,k+(j+1)<4->s.1 (k+(j+1))<=dT Q n k i (j+1))->(f i s).1.map (·.1)=lvM P Q n k i (i+1)/\(f i s).2.1 k=s.1 k/\∀j,k+(j+1)<4->(f i s).2.1 (k+(j+1))<=dT Q n k (i+1) (j+1)):
  (lvS T P f k a b s).1.map (·.1)=lvM P Q n k a b/\∀j,k+j<4->(lvS T P f k a b s).2.1 (k+j)<=dT Q n k b j:=by
 have aa:s.1 k<=a:=hp 0 W;rw[lvS,hT.N k W,Nat.max_eq_left aa,Bi hb]
 split
 ·grind [qi3]
 obtain⟨w1,w2,w3⟩:=T.win_le P k H;have ad:∀e,e<b->T.nu k e=(nuT Q k n).getD e 0:=λe he=>hT.nu k e W Oo
 have O:lvM P Q n k a b=lvM P Q n k (T.win P k a b).1 (T.win P k a b).2/\∀i,(T.win P k a b).1<=i->i<(T.win P k a b).2->agB P k ((nuT Q k n).getD i 0)=true:=by
  by_cases ac:P k<0
  ·grind [LvD.win,agB]
  ·obtain⟨s1,s2⟩:=T.sr_le k (P k) H;obtain⟨s3,s4⟩:=T.sr_spec k (P k) H (by grind);obtain⟨x,hx⟩:∃x:Nat,P k=(x:Int):=⟨(P k).toNat,by omega⟩
   have ae:=qsv (P:=P) (n:=n) W hx hr s1 s2 (by grind) (by grind)
   grind [LvD.win,agB,qi3]
 obtain⟨U,ab⟩:=O;obtain⟨u,eu⟩:∃u,u=T.win P k a b:=⟨_,rfl⟩
 rw[<-eu]at w1 w2 w3 U ab|-;have Z:=qx4 (Q:=Q) (n:=n) (P:=P) (k:=k) (lo:=u.1) (hi:=u.2) (f:=λi s=>f i (s.1,updN s.2 k (T.nu k i))) (Inv:=λi s=>s.1 k=b/\∀j,k+(j+1)<4->s.1 (k+(j+1))<=dT Q n k i (j+1))
  (by grind) (u.2-u.1) u.1 (updN s.1 k b,s.2) Oo Oo ⟨by grind [updN],λj hj=>by
    show updN s.1 k b (k+(j+1))<=_;rw[updN,Ab Oo];exact A6 (by grind) (qpo k w1 (j+1))⟩
 rw[show u.1+(u.2-u.1)=u.2 by omega]at Z;refine⟨by rw[Z.1,U],λj hj=>?_⟩;cases j with
 | zero=>rw[Bq,Z.2.1];exact Ao b
 | succ j=>exact A6 (Z.2.2 j hj) (qpo k w3 (j+1))
theorem qsw{T:LvD}{P:Nat->Int}{s:WS}{f:Nat->WS->WR}(O:m≠k)(U:∀i s,(f i s).2.1 m=s.1 m):(lvS T P f k a b s).2.1 m=s.1 m:=by
 have H:∀c i (s:WS),(goL (λi s=>f i (s.1,updN s.2 k (T.nu k i))) c i s).2.1 m=s.1 m:=by
  intro c
  induction c with
  | zero=>intro i s;rfl
  | succ c W=>grind [goL]
 grind [lvS,updN]
theorem qsu{T:LvD}{P:Nat->Int}{m:Nat}:∀{d k a b:Nat} {s:WS},m<k->(lvG T P d k a b s).2.1 m=s.1 m
 | 0,k,a,b,s,h=>qsw Oo λ_ _=>rfl
 | d+1,k,a,b,s,h=>qsw Oo λi s=>qsu (d:=d) Oo
theorem qy7(h:TOk Q n){T:LvD}(U:CanD T Q n){P:Nat->Int}:∀{d k a b:Nat} {s:WS},k+d=3->a<=b->b<=leT Q k n->(∀i j,a<=i->i<j->j<b->(nuT Q k n).getD i 0<(nuT Q k n).getD j 0)->
  (∀j,k+j<4->s.1 (k+j)<=dT Q n k a j)->(lvG T P d k a b s).1.map (·.1)=lvM P Q n k a b/\∀j,k+j<4->(lvG T P d k a b s).2.1 (k+j)<=dT Q n k b j
 | 0,k,a,b,s,W,H,Z,hr,hp=>by
  obtain rfl:k=3:=by omega
  have hn:leT Q 3 n=n:=h.all Oo;refine qy9 h U Oo H Z hr hp λi s h1 h2 O _=>⟨?_,rfl,Oo⟩
  rw[h.leaf Oo,Af O];rfl
 | d+1,k,a,b,s,W,H,Z,hr,hp=>by
  refine qy9 h U Oo H Z hr hp λi s h1 h2 O hj=>?_;have aa:=U.ch k i Oo Oo;have ih:=qy7 h U (P:=P) (d:=d) (k:=k+1) (a:=chT Q n k i) (b:=chT Q n k (i+1)) (s:=s) Oo (qh8 k n (BX i)) (qwz k n _) (λx y g1 g2 g3=>h.sibs Oo g1 g2 g3)
   (λj ab=>by rw[qll,show k+1+j=k+(j+1)by omega];exact hj j Oo)
  rw[aa];refine⟨by rw[ih.1,qp6 Oo,Af O],qsu Oo,λj ab=>?_⟩;have:=ih.2 j Oo;rw[qll,show k+1+j=k+(j+1)by omega]at this;exact this
theorem q8b(h:TOk Q n){T:LvD}(H:CanD T Q n){P:Nat->Int}{q:Nat->Nat}:(lvG T P 3 0 0 (leT Q 0 n) (λ_=>0,q)).1.map (·.1)=maT P Q 0 0 n:=by
 rw[<-h.lvM_all];exact(qy7 h H (d:=3) (k:=0) (a:=0) (b:=leT Q 0 n) (s:=(λ_=>0,q)) rfl Oo Oo (λi j _ O U=>h.tops O U) (λj W=>An _)).1
end
def seB(B:LB)(x:Nat):Nat:=if x<vM B then bsr (λi=>decide (x<qfc B (i+1))) (vN B-1) 0 (vN B-1)+1 else 0
def chB(l:LB)(k i:Nat):Nat×Nat:=
 if tVec l (k+1)=true then((if 0<i then seB (qd l (k+1)) (i-1)else 0),max (if 0<i then seB (qd l (k+1)) (i-1)else 0) (seB (qd l (k+1)) i))else(0,0)
def treD(l:LB):LvD:=⟨vNum l,λk e=>numP (qg l k) (tw l k) e,chB l⟩
theorem q0j{B:LB}(x:Nat)(h:vM B<=vN B):seB B x<=vN B:=by
 grind [seB,qkc]
theorem qr0(h:∀k,vNum l k<=1048576\/4<=k)(H:k+1<4)(O:tVec l (k+1)=true->vM (qd l (k+1))<=vN (qd l (k+1))):(chB l k i).1<=1048576/\(chB l k i).2<=1048576:=by
 grind [chB,tVec,q0j]
section
variable {Q:Nat->Nat->Nat} {n:Nat} (h:TOk Q n)
include h
theorem TOk.seB{p:Nat}(H:k+1<4)(W:p<leT Q k n):Go.Proofs.YtccmcfpmknpccaaGreatDoor.seB (qd (qm Q n) (k+1)) p=chT Q n k (p+1):=by
 obtain⟨h1,Z,h3,h4,h5⟩:=h.vec H;have hl:=qju h.toE (k+1) Oo Oo;have O:=h.ones H;rw[Go.Proofs.YtccmcfpmknpccaaGreatDoor.seB,h3,Af W,Z];have U:0<leT Q (k+1) n:=by
  refine Nat.pos_of_ne_zero λe=>?_;rw[e]at O;have:leT Q k n=0:=O.symm;omega
 obtain⟨N,eN⟩:∃N,N=leT Q (k+1) n-1:=⟨_,rfl⟩
 have aa:∀i,i<=N+1->qfc (qd (qm Q n) (k+1)) i=Go.Proofs.YtccmcfpmknpccaaGreatDoor.cnt ((qd (qm Q n) (k+1)).drop 8) i:=λi hi=>hl.rank i (by rw[h.vNum H];omega)
 rw[<-eN];have hb:=qkc (p:=λi=>decide (p<qfc (qd (qm Q n) (k+1)) (i+1))) (f:=N) (a:=0) (b:=N) (An _);have hs:=qh6 (p:=λi=>decide (p<qfc (qd (qm Q n) (k+1)) (i+1))) (n:=N) (by grind [Nat.lt_of_lt_of_le,qeg]) (f:=N) (a:=0) (b:=N) Oo Oo Oo Oo Oo;obtain⟨s,es⟩:∃s,s=bsr (λi=>decide (p<qfc (qd (qm Q n) (k+1)) (i+1))) N 0 N:=⟨_,rfl⟩
 rw[<-es]at hb hs|-;refine h.child H Oo ?_ ?_
 ·cases s with
  | zero=>exact An _
  | succ s=>
   grind
 grind
theorem TOk.canD:CanD (treD (qm Q n)) Q n:=by
 refine⟨λk H=>h.vNum H,λk e H O=>?_,λk i H hi=>?_⟩
 ·show numP _ _ _=_;rw[qs4 _ _ _ (by have:=h.wi H;rw[h.tw H];omega)];exact h.tX H O
 ·have U:=qju h.toE (k+1) Oo Oo;have W:(if 0<i then Go.Proofs.YtccmcfpmknpccaaGreatDoor.seB (qd (qm Q n) (k+1)) (i-1)else 0)=chT Q n k i:=by
   split
   ·rw[h.seB H Oo,show i-1+1=i by omega]
   grind [q2j]
  show chB _ k i=_;rw[chB,Af U.tvec,W,h.seB H hi,Nat.max_eq_right (qh8 k n (BX i))]
theorem TOk.mtch{P:Nat->Int}{q:Nat->Nat}:(lvG (treD (qm Q n)) P 3 0 0 (Go.Proofs.YtccmcfpmknpccaaGreatDoor.vNum (qm Q n) 0) (λ_=>0,q)).1.map (·.1)=maT P Q 0 0 n:=by
 rw[h.vNum Od];exact q8b h h.canD
end
set_option maxHeartbeats 8000000
set_option maxRecDepth 100000
theorem qrv(p:Nat->Bool)(f a:Nat):bsr p f a a=a:=by
 cases f<;>grind [bsr]
theorem qqn(l:LB)(A:oA)(c b k:Nat)(w:Dd)(hS:SlAt encB 1 w A l)(hc:l.length<=c)(hv:vOk l=true)(hb:w.heap[b]?=some (vecO 381 (.slice A l.length c) (vN l) (vM l)))(h1:1<=vN l)(hn:vN l<=67108864):
  Gv Dp 280 [pp b,ii k,.func (.func 224) #[pp b] #[]] w λr Z=>r=ii (bsr (λi=>decide (k<qfc l (i+1))) (vN l-1) 0 (vN l-1):Nat)/\Ext w Z:=by
 obtain⟨p,ep⟩:∃p:Nat->Bool,p=λi=>decide (k<qfc l (i+1)):=⟨_,rfl⟩
 rw[<-ep];refine ze Tryz.func280 Tryz.ntmps280 ?_;refine DrawV.free Jk Jk (zw ?_);(iterate 3 (refine zd ?_));refine zf ?_ (by intro wd hd;(conv=>whnf);refine LoadV.own (Ext.get (Ext.trans (Ext.drew xr) hd) hb) rfl ?_;(conv=>whnf);exact xq);(iterate 3 (refine zd ?_));intro w1 U;have U:=(Ext.refl w).drew.trans U;(conv=>whnf);refine qn (λs:Nat×Nat=>[(1,ii k),(2,.func (.func 224) #[pp b] #[]),(7,ii s.1),(8,ii s.2)])
  (λs Z=>s.1<=s.2/\s.2<=vN l-1/\(∃f,s.2-s.1<=f/\bsr p f s.1 s.2=bsr p (vN l-1) 0 (vN l-1))/\Ext w Z) (λs=>s.2-s.1) (0,vN l-1) ⟨rfl,rfl,rfl,Ae (Value.int .i64) (by show((vN l:Nat):Int)-1=((vN l-1:Nat):Int);omega),trivial⟩ (by grind) ?_
 rintro⟨x,y⟩ w2 ab ⟨g1,g2,⟨f,hf,O⟩,W⟩;dsimp only at g1 g2 hf O|-;(conv=>whnf);refine zC (λ_=>zu ?_) (λ_=>zu ?_)
 ·obtain⟨h,eh⟩:∃h,h=(x+y)/2:=⟨_,rfl⟩
  obtain⟨f',rfl⟩:∃f',f=f'+1:=⟨f-1,by omega⟩
  rw[bsr,Af Oo,<-eh]at O;rw[show((x:Int)+(y:Int))/2=((h:Nat):Int)by omega,show((h:Nat):Int)+1=((h+1:Nat):Int)by omega];refine zcv (qtd l A c b (h+1) w2 (hS.ext W) hc hv (W.get hb) Oo) ?_;rintro r w3 ⟨rfl,aa⟩;have W:=W.trans aa;cases H:p h
  ·rw[Ab (by rw[H];decide)]at O;rw[ep]at H;have H:=of_decide_eq_false H;refine zu ?_;refine⟨(h+1,y),fq,(by grind),by omega⟩
  ·rw[Af H]at O;rw[ep]at H;have H:=BC H;refine zu ?_;refine⟨(x,h),fq,(by grind),by omega⟩
 grind [qrv]
theorem qfe(l:LB)(A:oA)(c b k:Nat)(w:Dd)(O:SlAt encB 1 w A l)(U:l.length<=c)(W:vOk l=true)(H:w.heap[b]?=some (vecO 381 (.slice A l.length c) (vN l) (vM l)))(hm:vM l<=vN l)(hn:vN l<=67108864):
  Gv Dp 210 [pp b,ii k] w λr Z=>r=ii ((seB l k:Int)-1)/\Ext w Z:=by
 refine ze Tryz.func210 Tryz.ntmps210 ?_;refine zv ?_;refine LoadV.own H rfl (zw ?_);refine zt ?_;refine zC (λ_=>zw ?_) (λ_=>zw ?_)
 ·grind [seB,Ext.refl]
 ·refine zcv (qqn l A c b k w O U W H Oo hn) ?_;rintro r w1 ⟨rfl,aa⟩;conv=>whnf
  grind [seB]
theorem qoy(g:FuncId)(W Z c3:Di)(n:Nat)(p:Nat->Bool)(w:Dd)(hn:n<=4194304)(hg:∀i H,i<n->Ext w H->Gv Dp g [ii i,W,Z,c3] H λr aa=>r=.bool (p i)/\Ext H aa):
  Gv Dp 208 [ii n,.func (.func g) #[] #[W,Z,c3]] w λr H=>r=ii (bsr p n 0 n:Nat)/\Ext w H:=by
 refine ze Tryz.func208 Tryz.ntmps208 ?_;refine qn (λs:Nat×Nat=>[(1,.func (.func g) #[] #[W,Z,c3]),(5,ii s.1),(6,ii s.2)])
  (λs H=>s.1<=s.2/\s.2<=n/\(∃f,s.2-s.1<=f/\bsr p f s.1 s.2=bsr p n 0 n)/\Ext w H) (λs=>s.2-s.1) (0,n) fq (by grind [Ext.refl]) ?_
 rintro⟨a,b⟩ w1 ac ⟨h1,h2,⟨f,hf,U⟩,he⟩;dsimp only at h1 h2 hf U|-;(conv=>whnf);refine zC (λ_=>zu ?_) (λ_=>zu ?_)
 ·obtain⟨h,eh⟩:∃h,h=(a+b)/2:=⟨_,rfl⟩
  obtain⟨f',rfl⟩:∃f',f=f'+1:=⟨f-1,by omega⟩
  rw[bsr,Af Oo,<-eh]at U;rw[<-Int.natCast_add];refine V.Wit.shrN 1 rfl Od ?_;rw[Nat.pow_one,<-eh];refine zu ?_;refine zcv (hg h w1 Oo he) ?_;rintro r w2 ⟨rfl,ab⟩;have he:=he.trans ab;cases O:p h
  ·rw[Ab (by rw[O];decide)]at U;refine zu ?_;refine⟨(h+1,b),fq,(by grind),by omega⟩
  ·rw[Af O]at U;refine zu ?_;refine⟨(a,h),fq,(by grind),by omega⟩
 grind [qrv]
theorem qo4(b off i lo H cp:Nat)(x:Int)(W Z b7:Nat)(P:oA)(p:LB)(w:Dd)(h1:w.cell? ⟨b,off+1,none⟩=some (ii H))(h5:w.cell? ⟨b,off+5,none⟩=some (.slice P p.length cp))(hP:SlAt encB 1 w P p)(hw:H<=23)(hi:lo+i<=4194304)(g4:w.cell? ⟨W,0,none⟩=some (.pointer (some ⟨b,off,none⟩)))(g5:w.cell? ⟨Z,0,none⟩=some (ii lo))(g7:w.cell? ⟨b7,0,none⟩=some (ii x)):
  Gv Dp 209 [ii i,pp W,pp Z,pp b7] w λr w'=>r=.bool (decide (x<=(numP p H (lo+i):Int)))/\Ext w w':=by
 refine ze Tryz.func209 Tryz.ntmps209 ?_;refine DrawV.free Jk Jk (zw ?_);refine zf ?_ (by intro H hd;(conv=>whnf);refine LoadV.of (Ext.cell (Ext.trans (Ext.drew xr) hd) g4) ?_;(conv=>whnf);exact xq);refine zf ?_ (by intro H hd;(conv=>whnf);refine LoadV.of (Ext.cell (Ext.trans (Ext.drew xr) hd) g5) ?_;(conv=>whnf);exact xq);refine zd ?_;refine zd ?_;apply zsd (ii (numP p H (lo+i)))
 ·intro O hd;(conv=>whnf);rw[show((lo:Int)+(i:Int))=((lo+i:Nat):Int)by omega];refine zcv (qbt b off (lo+i) H cp P p O (((Ext.refl w).drew.trans hd).cell h1) (((Ext.refl w).drew.trans hd).cell h5) (hP.ext ((Ext.refl w).drew.trans hd)) hw hi) ?_
  simp_all
 (conv=>whnf);refine zf ?_ (by intro H hd;(conv=>whnf);refine LoadV.of (Ext.cell (Ext.trans (Ext.drew xr) hd) g7) ?_;(conv=>whnf);exact xq);refine zd ?_;refine zd ?_;intro w2 U;(conv=>whnf);exact⟨rfl,(Ext.refl w).drew.trans U⟩
theorem qff(b off lo hi O cp:Nat)(x:Int)(P:oA)(p:LB)(w:Dd)(h1:w.cell? ⟨b,off+1,none⟩=some (ii O))(h5:w.cell? ⟨b,off+5,none⟩=some (.slice P p.length cp))(hP:SlAt encB 1 w P p)(hw:O<=23)(ad:lo<=hi)(ae:hi<=4194304):
  Gv Dp 128 [.pointer (some ⟨b,off,none⟩),ii lo,ii hi,ii x] w λr w'=>r=ii (lo+bsr (λi=>decide (x<=(numP p O (lo+i):Int))) (hi-lo) 0 (hi-lo):Nat)/\Ext w w':=by
 obtain⟨q,eq⟩:∃q:Nat->Bool,q=λi=>decide (x<=(numP p O (lo+i):Int)):=⟨_,rfl⟩
 rw[<-eq];have hq:=qkc (p:=q) (f:=hi-lo) (a:=0) (b:=hi-lo) (An _);refine ze Tryz.func128 Tryz.ntmps128 ?_;refine znm (Mem.nil w) λb4 w1 H=>zw ?_;refine znm H λb5 w2 H=>zw ?_;refine znm H λb7 Z H=>zw ?_;have c7:Z.cell? ⟨b7,0,none⟩=some (ii x):=by rw[qa (H.get mh)];rfl
 have c5:Z.cell? ⟨b5,0,none⟩=some (ii lo):=by rw[qa (H.get (zmc mh))];rfl
 have c4:Z.cell? ⟨b4,0,none⟩=some (.pointer (some ⟨b,off,none⟩)):=by rw[qa (H.get (zmc (zmc mh)))];rfl
 refine DrawV.free Jk Jk (zw ?_);refine zf ?_ (by intro O hd;(conv=>whnf);refine LoadV.of (Ext.cell (Ext.trans (Ext.drew xr) hd) c5) ?_;(conv=>whnf);exact xq);refine zd ?_;refine zf ?_ (by intro O hd;(conv=>whnf);refine LoadV.of (Ext.cell (Ext.trans (Ext.drew xr) hd) c5) ?_;(conv=>whnf);exact xq);refine zd ?_;refine zd ?_;apply zsd (ii (bsr q (hi-lo) 0 (hi-lo):Nat))
 ·intro aa hd;have hx:=(Ext.refl Z).drew.trans hd;have U:=H.ext.trans hx;(conv=>whnf);rw[show((hi:Int)-(lo:Int))=((hi-lo:Nat):Int)by omega];have ab:=qoy 209 (pp b4) (pp b5) (pp b7) (hi-lo) q aa Oo (λi w' af W=>by
   rw[eq];exact qo4 b off i lo O cp x b4 b5 b7 P p w' ((U.trans W).cell h1) ((U.trans W).cell h5) (hP.ext (U.trans W)) hw Oo ((hx.trans W).cell c4) ((hx.trans W).cell c5) ((hx.trans W).cell c7))
  refine zcv (ab) ?_
  simp_all
 (conv=>whnf);refine zd ?_;refine zd ?_;intro w4 ac;(conv=>whnf);exact⟨Js,H.ext.trans ((Ext.refl Z).drew.trans ac)⟩
theorem qch(b:Nat)(l:LB)(k i:Nat)(w:Dd)(h:TreeAt w b l)(hk:k+1<4)(hi:i<=1048576)(H:tVec l (k+1)=true->vM (qd l (k+1))<=vN (qd l (k+1))):
  Gv Dp 131 [pp b,ii k,ii i] w λr w'=>r=.tuple #[ii (chB l k i).1,ii (chB l k i).2]/\Ext w w':=by
 obtain⟨P,cp,S,cs,V,hc,hP,hS,hl,hv⟩:=(h.lv (k+1) Oo).h;have hn:=h.n (k+1) hk;refine ze Tryz.func131 Tryz.ntmps131 ?_;refine zv ?_;refine IdxV.at_ (k+1) Oo Oo (zw ?_);refine LoadV.cellsE hc 7 (by rw[show tsz Dp 244=8 from by kernel_rfl];show 0+0+(k+1)*8+7=8*(k+1)+7;omega) rfl (zw ?_)
 rcases hv with⟨hx|hx,rfl⟩|⟨_,ac,vb,rfl,aa⟩
 ·omega
 ·refine zu ?_
  grind [chB,Ext.refl]
 have Z:=ac;simp only[tVec,AB,decide_eq_true_eq]at Z;obtain⟨⟨O,ab⟩,U⟩:=Z;have H:=H ac;obtain⟨F,eF⟩:∃F:Nat,F=if 0<i then seB (qd l (k+1)) (i-1)else 0:=⟨_,rfl⟩
 have ae:chB l k i=(F,max F (seB (qd l (k+1)) i)):=by grind [chB]
 rw[ae];have af:=q0j (B:=qd l (k+1)) (i-1) H;have ag:=q0j (B:=qd l (k+1)) i H;have hF:F<=vN (qd l (k+1)):=by grind
 (conv=>whnf);refine zt ?_;refine zC (λ_=>zw ?_) (λ_=>zw ?_)
 ·refine LoadV.cellsE hc 7 (by rw[show tsz Dp 244=8 from by kernel_rfl];show 0+0+(k+1)*8+7=8*(k+1)+7;omega) rfl (zu ?_);rw[show((i:Int)-1)=((i-1:Nat):Int)by omega];refine zcv (qfe (qd l (k+1)) S cs vb (i-1) w hS hl O (by rw[ab,U];exact aa) H Oo) ?_;rintro r w1 ⟨rfl,W⟩;refine zu ?_;refine LoadV.cellsE (hc.ext W) 7 (by rw[show tsz Dp 244=8 from by kernel_rfl];show 0+0+(k+1)*8+7=8*(k+1)+7;omega) rfl (zw ?_);refine zcv (qfe (qd l (k+1)) S cs vb i w1 (hS.ext W) hl O (by rw[ab,U];exact W.get aa) H Oo) ?_;rintro r w2 ⟨rfl,ad⟩;refine zu ?_;refine V.Fall.max2 rfl rfl rfl λm hm=>?_;subst hm;(conv=>whnf);refine⟨?_,W.trans ad⟩
  grind
 ·refine LoadV.cellsE hc 7 (by rw[show tsz Dp 244=8 from by kernel_rfl];show 0+0+(k+1)*8+7=8*(k+1)+7;omega) rfl (zw ?_);refine zcv (qfe (qd l (k+1)) S cs vb i w hS hl O (by rw[ab,U];exact aa) H Oo) ?_;rintro r w2 ⟨rfl,ad⟩;refine zu ?_;refine V.Fall.max2 rfl rfl rfl λm hm=>?_;subst hm;conv=>whnf
  simp_all
open Go.RowKit
namespace V
section
variable {P:Df} {n:Nat} {r:Option Nat}
theorem q9m{row:String}{args:Dq}(h:Rows P row args w R):RowsIn (Fr r) 0 P row args w R:=λc cs _=>by
 obtain⟨v,H,O,s⟩:=h c cs;exact⟨v,H,O,(stepsIn_wide.2 s:StepsIn (Machine.fenced P Fence.wide) P _ _)⟩
theorem qk9(O:r=none\/∀c,o.op≠.defer c){a:Act}{K U:Act->Dl}{Q Q2:Exit->Act->Dl}(hQ:∀e a w,Q e a w->e=.normal)(hK:∀a w,K a w->U { a with defers:=a.defers++ds } w)(h:o.wp P a w K Q):o.wpIn (Fr r) 0 P { a with defers:=a.defers++ds } w U Q2:=by
 refine⟨λ_ _=>trivial,?_⟩;have W:({ a with defers:=a.defers++ds }:Act).eval=a.eval:=by rfl
 have hs:o.semAt (Fr r).round a.eval=execOp a.eval o:=by
  rcases O with rfl|O
  ·rfl
  grind [Oper.semAt_eq]
 rw[W,hs];unfold Oper.wp at h;have hp:∀v,({ a with defers:=a.defers++ds }:Act).put o.dst v={ a.put o.dst v with defers:=(a.put o.dst v).defers++ds }:=λv=>by cases o.dst<;>rfl
 generalize(execOp a.eval o).run P w=aa at h;cases aa with
 | ok nx w'=>
  cases nx with
  | value v=>show U _ _;rw[hp];exact hK _ _ h
  | skip=>show U _ _;rw[hp];exact hK _ _ h
  | defer d=>
   have Z:=hK _ _ h;show U _ _;cases hd:o.dst with
   | none=>rw[hd]at Z;exact Z
   | some t=>rw[hd]at Z;exact Z
  | enter f args=>
   refine⟨(by grind [Fr]),qck.2 (Calls.mono h λe ab W=>?_)⟩;cases e with
   | returned v=>simp_all
   | panicked ch=>grind
   | outgrown=>obtain⟨a',w',hq⟩:=W;grind
  | row row args=>
   refine⟨(by grind [Fr]),q9m (Rows.mono h λv ab W=>?_)⟩
   simp_all
  | _=>exact h.elim
 | halt x w'=>
  cases x with
  | panic v=>have:=hQ _ _ _ h;cases this
  | _=>exact h.elim
def qzg(ops:List Oper):Bool:=ops.all λo=>match o.op with
 | .defer _=>false
 | _=>true
theorem qs3{ops:List Oper}(h:qzg ops=true)(H:o∈ops):∀c,o.op≠.defer c:=by
 intro c e;have:=BU.1 h o H
 simp_all
theorem qro{ops:Array Oper}(W:r=none\/qzg ops.toList=true){ds:Dr}{Q Q2:Exit->Act->Dl}(Z:∀e a w,Q e a w->e=.normal)(hk:∀a w,Q .normal a w->Q2 .normal { a with defers:=a.defers++ds } w):∀(fuel:Nat) (O:Array Bool) (a:Act) (w:Dd),wpAny P .any ops Q fuel O a w->
  wpAnyIn (Fr r) 0 P .any ops Q2 fuel O { a with defers:=a.defers++ds } w
 | 0,_,_,_,h=>⟨h.1,hk _ _ h.2⟩
 | fuel+1,O,a,w,h=>by
  refine⟨λhr=>hk _ _ (h.1 hr),λi hi=>?_⟩;have U:=h.2 i hi;unfold wpOp at U;unfold wpOpIn;cases ho:ops[i]? with
  | none=>rw[ho]at U;exact qro W Z hk fuel _ _ _ U
  | some o=>
   rw[ho]at U;dsimp only at U|-;have aa:r=none\/∀c,o.op≠.defer c:=W.imp_right λhn=>qs3 hn (Array.mem_toList_iff.2 (CJ ho))
   split
   ·rename_i hw
    rw[Af hw]at U
    rcases U with U|⟨_,a',w',hq⟩
    ·exact qk9 aa Z (λa w h=>qro W Z hk fuel _ a w h) U
    ·have:=Z _ _ _ hq;cases this
   ·rename_i hw
    rw[Ab hw]at U;refine⟨λ_ _=>trivial,?_⟩;have hp:({ a with defers:=a.defers++ds }:Act).put o.dst undef={ a.put o.dst undef with defers:=(a.put o.dst undef).defers++ds }:=by cases o.dst<;>rfl
    rw[hp];exact qro W Z hk fuel _ _ _ U
theorem DrawW.any{Q:QW}(hm:P.follows .mixedOrders=true)(W:r=none\/qzg ops.toList=true)(h:AnyV P n ops (λO Z=>Q .normal O ds Z) ρ w):DrawW P n r id ops Q ρ ds w:=by
 refine⟨λa ha hd=>wpIn_region_any hm ?_⟩;have e:a={ ({ a with defers:=[] }:Act)with defers:=({ a with defers:=[] }:Act).defers++ds }:=by subst hd;rfl
 have h1:=qro (r:=r) (ds:=ds) (Q2:=qdr n Q) W (by grind) (λU Z h=>?_) _ _ _ _ (h.h { a with defers:=[] } ha)
 ·rw[<-e]at h1;exact h1
 ·obtain⟨_,O,hs,hq⟩:=h;have aa:U.defers++ds=ds:=by rw[hs.defers];rfl
  refine⟨O,?_,?_⟩
  ·show St n O { U with defers:=[] };have:({ U with defers:=[] }:Act)=U:=by have:=hs.defers;cases U;grind
   grind
  grind
structure BeginA(J:Dm->Dl)(l:Nat)(ob ob':Obj)(w:Dd)(ds:Dr)(K:Dl):Prop where
 d:ds=[]
 h:∃Y,J ((l,ob)::Y) w/\∀w2,J ((l,ob')::Y) w2->K w2
theorem qz4{f:Operand}{ps:Array Tmp}{Q:QW}{Φ:Dl}{xs:List Dn}(hf:ev ρ f=.func (.func gf) #[] lb.toArray)(he:qcm P gf=true)(aj:SeqC P gf lb xs Φ)(ar:ps.toList.all (Nat.blt · n)=true)(au:∀x∈xs,x.length=ps.size)(J:Nat->Dm->Dl)(Jx:Code->Nat->Dm->Dl)(hJ:∀k,Carr (J k))(O:∀c k,Carr (Jx c k))(hw:∀k X w,J k X w->Φ w)(h0:J 0 [] w)(ae:∀l D ob af k x X w1,xs[k]?=some x->J k ((l,ob)::(D,.deferred (some []))::X) w1->
   qdw P n (some l) assign (q3t λak av aw=>BeginA (J k) l ob af aw av
    (λw2=>qdw P n (some l) body (qtk (J (k+1) ((l,af)::(D,.deferred (some []))::X)) (λc=>Jx c k ((l,af)::(D,.deferred (some []))::X))) ak [] w2)) (qot ps.toList x ρ) [] w1)(ag:∀D w',J xs.length [(D,.deferred (some []))] w'->Q .normal ρ ({ target:=.collected D,args:=#[] }::ds) w')(ah:∀D c k w',k<xs.length->Jx c k [(D,.deferred (some []))] w'->qacl c Q ρ ({ target:=.collected D,args:=#[] }::ds) w'):RangeW P n none f ps assign body Q ρ ds w:=by
 refine⟨λa ha hd=>?_⟩;subst hd;refine wpIn_rangeFunc ?_;intro fn ax;obtain⟨U,H⟩:∃U:LoopState->Option Code->Loop,U=λst pe=>{ state:=st,pending:=pe,fn,tmps:=a.tmps,params:=ps,assign,body,defers:=w.heap.size }:=⟨_,rfl⟩
 obtain⟨W1,an⟩:∃W1,(w.alloc (.deferred (some []))).alloc (.loop (U .ready none))=W1:=⟨_,rfl⟩
 have hD:=(hJ 0).new (.deferred (some [])) h0;have hL:=(hJ 0).new (.loop (U .ready none)) hD;rw[an,World.size_alloc]at hL;refine⟨w.heap.size+1,[{ target:=.collected w.heap.size,args:=#[] }],W1,{ target:=.fn (.func gf) lb.toArray,args:=#[.func (.yield (w.heap.size+1)) #[] #[]] },W1,gf,
  #[.func (.yield (w.heap.size+1)) #[] #[]]++lb.toArray,W1,?_,?_,λ_ _=>trivial,?_,(by grind [Fr]),?_⟩
 ·rw[<-an,H];exact run_enterLoop_outer _ _ _ _ _
 ·have:a.eval f=.func (.func gf) #[] lb.toArray:=by rw[ha.eval,hf]
  simp only[resolve,this];simp[go_sem]
 ·grind [invoke,qce]
 ·have ea:#[Value.func (.yield (w.heap.size+1)) #[] #[]]++lb.toArray=(Value.func (.yield (w.heap.size+1)) #[] #[]::lb).toArray:=by simp
  rw[ea];refine qck.2 ((aj (w.heap.size+1) (λk X W=>J k (X++[(w.heap.size+1,.loop (U .ready none)),(w.heap.size,.deferred (some []))]) W)
   (λk X W=>∃c,Jx c k (X++[(w.heap.size+1,.loop (U .done (some c))),(w.heap.size,.deferred (some []))]) W) W1
   (λk=>(hJ k).tail _) (λk=>Carr.any λc=>(O c k).tail _) (by grind) hL ?_).2.mono ?_)
  ·intro k x X W hx hk;replace hk:=(hJ k).perm hk As;have hl:=(hJ k).get hk mh;have hy:=run_yield (P:=P) (args:=x.toArray) hl (by rw[H];simpa using au x (zmg hx));rw[H]at hy;refine⟨⟨fn,_,assign,body,hy,roundIn_of_wpIn ax ?_⟩⟩;have h1:=ae (w.heap.size+1) w.heap.size _ (.loop { U .ready none with state:=.busy }) k x X W hx hk;have hz:(ps.zip x.toArray).foldl (λt (p,v)=>t.setIfInBounds p v) a.tmps=(ps.toList.zip x).foldl (λt (p,v)=>t.setIfInBounds p v) a.tmps:=by
    rw[<-Array.foldl_toList];simp
   have ay:Sw n (qot ps.toList x ρ) { tmps:=(ps.zip x.toArray).foldl (λt (p,v)=>t.setIfInBounds p v) a.tmps,defers:=[] }:=by
    rw[hz];exact qtq _ _ _ _ ar ha
   refine Go.wpIn_mono (F:=Fr (some (w.heap.size+1))) (qeh assign _ _ _ _ h1 _ ay rfl) λe a1 w1 Z=>?_;obtain⟨ak,ao,Z⟩:=Z;cases e with
   | normal=>
    obtain⟨az,Y,hY,ai⟩:=Z;have ai:=ai _ ((hJ k).set (.loop { U .ready none with state:=.busy }) hY);refine⟨_,run_beginRound ((hJ k).get hY mh) (by rw[H]),?_⟩;refine Go.wpIn_mono (F:=Fr (some (w.heap.size+1))) (qeh body _ _ _ _ ai _ ao az) λe a2 w2 Z=>?_;obtain⟨a3,a0,Z⟩:=Z;cases e with
    | normal=>
     refine⟨_,_,run_endRound none ((hJ _).get Z mh),_,rfl,.inl ⟨rfl,?_⟩⟩;have:=(hJ (k+1)).perm ((hJ (k+1)).set (.loop (U .ready none)) Z) (As (l₁:=[_,_]));rw[H]at this|-;exact this
    | ret=>
     refine⟨_,_,run_endRound (some .ret) ((O _ _).get Z mh),_,rfl,.inr ⟨rfl,.ret,?_⟩⟩;have:=(O _ k).perm ((O _ k).set (.loop (U .done (some .ret))) Z) (As (l₁:=[_,_]));rw[H]at this|-;exact this
    | exit id=>
     refine⟨_,_,run_endRound (some (.exit id)) ((O _ _).get Z mh),_,rfl,.inr ⟨rfl,.exit id,?_⟩⟩;have:=(O _ k).perm ((O _ k).set (.loop (U .done (some (.exit id)))) Z) (As (l₁:=[_,_]));rw[H]at this|-;exact this
    | goto t=>
     refine⟨_,_,run_endRound (some (.goto t)) ((O _ _).get Z mh),_,rfl,.inr ⟨rfl,.goto t,?_⟩⟩;have:=(O _ k).perm ((O _ k).set (.loop (U .done (some (.goto t)))) Z) (As (l₁:=[_,_]));rw[H]at this|-;exact this
    | panic ch=>exact Z.elim
    | outgrown=>exact Z.elim
   | ret=>exact Z.elim
   | exit id=>exact Z.elim
   | goto t=>exact Z.elim
   | panic ch=>exact Z.elim
   | outgrown=>exact Z.elim
  ·rintro e W2 ⟨v,rfl,h|⟨k,hk,c,h⟩⟩
   ·have hl:=(hJ _).get h mh;have:=run_endLoop (P:=P) hl (by rw[H];simp);rw[H]at this;exact⟨none,_,this,ρ,ha,ag _ _ ((hJ _).drop ((hJ _).set _ h))⟩
   ·have hl:=(O _ _).get h mh;have:=run_endLoop (P:=P) hl (by rw[H];simp);rw[H]at this;refine⟨some c,_,this,?_⟩;have hs:=ah _ c k _ hk ((O _ _).drop ((O _ _).set (.loop { U .done (some c)with state:=.exhausted }) h));rw[H]at hs;cases c with
    | ret=>exact Go.wpIn_ret ⟨ρ,ha,hs⟩
    | exit id=>exact Go.wpIn_exit ⟨ρ,ha,hs⟩
    | goto t=>exact Go.wpIn_goto ⟨ρ,ha,hs⟩
    | _=>exact hs.elim
def qzb(D:Nat):Deferred:={ target:=.collected D,args:=#[] }
def q8e(D:Nat):Nat×Obj:=(D,.deferred (some []))
theorem qhp{O:Func}{R:Dj}{ρ:Dk}{J:Dm->Dl}(U:Carr J)(Z:∀W,J [] W->resV O.results ρ W O R P n):
  ∀(H:Do) (w:Dd),J (H.map q8e) w->qkl P n O R ρ (H.map qzb) w
 | [],w,h=>Z w h
 | D::H,w,h=>by
  show LeaveV P n O R ρ (qzb D::H.map qzb) w;refine LeaveV.mark (U.get h mh) λW hw=>?_;subst hw;exact qhp U Z H _ (U.drop (U.set _ h))
theorem Carr.setM(h:Carr J){A:Dm}{o:Obj}(H:Obj)(k:J (A++(b,o)::B) w):J (A++(b,H)::B) (setO w b H):=
 h.perm (h.set H (h.perm k Bm)) Bm.symm
theorem LeaveV.marks{H:Func}(U:Carr J)(W:∀O,J [] O->resV H.results ρ O H R P n){D:Nat}{Ds:Do}(h:J ((D::Ds).map q8e) w):
  LeaveV P n H R ρ (qzb D::Ds.map qzb) w:=qhp U W (D::Ds) w h
theorem Carr.dropM(h:Carr J){A:Dm}{x:Nat×Obj}(k:J (A++x::B) w):J (A++B) w:=h.drop (h.perm k Bm)
theorem qos{v:Di}{t:Dg}(h:w.heap[b]?=some (.cells cs t fr)):w.setCell ⟨b,off,none⟩ v=setO w b (.cells (cs.setIfInBounds off v) t fr):=by
 unfold World.setCell setO
 congr 1
 grind
theorem StoreV.carr(O:Carr J){A:Dm}{t:Dg}{v:Di}{K:Dl}(h:J (A++(b,.cells cs t)::B) w)(W:off<cs.size)(Z:qb5 v=true)(hk:∀H,J (A++(b,.cells (cs.setIfInBounds off v) t)::B) H->K H):StoreV w b off v K:=by
 have U:=O.get h (Aa _ mh);refine StoreV.own U W Z λH hw=>hk H ?_
 rw[hw,qos U];exact O.setM _ h
theorem NewV.carr(O:Carr J){X:Dm}{o:Obj}{K:Nat->Dl}(h:J X w)(U:∀b H,J ((b,o)::X) H->K b H):NewV w o K:=
 ⟨λb H W Z=>by subst W Z;exact U _ _ (O.new o h)⟩
theorem LoadV.carr(H:Carr J){X:Dm}{t:Dg}{v:Di}{K:Di->Prop}(h:J X w)(O:(b,Obj.cells cs t fr)∈X)(U:cs[off]?=some v)(W:K v):LoadV w b off K:=
 LoadV.own (H.get h O) U W
end
end V
namespace V
section
variable {P:Df} {n:Nat} {r:Option Nat}
def qof(ops:List Oper):Nat->Do->Bool
 | 0,_=>true
 | j+1,S=>S.contains j&&qof ops j ((match getL ops j with|some o=>qaw o|none=>[])++S)
def q93(m:Nat)(ops:List Oper):Bool:=
 Nat.blt m ops.length&&qof ops m (match getL ops m with|some o=>qaw o|none=>[])&&(List.range ops.length).all λj=>
  match getL ops j with
  | none=>true
  | some o=>(qaw o).all (λk=>Nat.blt k j)&&(Nat.ble j m||(qaw o).contains (j-1))&&(Nat.ble m j||(match o.guard with|none=>true|some (g,_)=>Nat.blt g m))
structure TailP(m:Nat)(ops:Array Oper):Prop where
 msz:m<ops.size
 reach:∀o,ops[m]?=some o->qof ops.toList m (qaw o)=true
 lt:∀(j:Nat) (o:Oper),ops[j]?=some o->∀k∈qaw o,k<j
 next:∀(j:Nat) (o:Oper),ops[j]?=some o->m<j->j-1∈qaw o
 guard:∀(j:Nat) (o:Oper) (g:Nat) (b:Bool),ops[j]?=some o->j<m->o.guard=some (g,b)->g<m
theorem q4x(h:q93 m ops.toList=true):TailP m ops:=by
 simp only[q93,AB]at h;obtain⟨⟨W,h2⟩,Z⟩:=h;have hm:m<ops.size:=by simpa using W
 have O:∀(j:Nat) (o:Oper),ops[j]?=some o->(qaw o).all (λk=>Nat.blt k j)=true/\(Nat.ble j m||(qaw o).contains (j-1))=true/\(Nat.ble m j||(match o.guard with|none=>true|some (g,_)=>Nat.blt g m))=true:=λj o H=>by
  have U:=(BO.1 H).1;have:=BU.1 Z j (B7.2 (by simpa using U))
  grind [qav]
 refine⟨hm,λo H=>?_,λj o H k hk=>?_,λj o H U=>?_,λj o g b H U hg=>?_⟩
 ·grind [qav]
 ·simp_all
 ·have:=(O j o H).2.1;rw[C7]at this
  rcases this with h|h
  ·have:=Cd h;omega
  simp_all
 ·have:=(O j o H).2.2;rw[hg,C7]at this
  rcases this with h|h
  ·have:=Cd h;omega
  simp_all
theorem qth{ops:Array Oper}{p:Nat->Prop}(H:∀(j:Nat) (o:Oper),ops[j]?=some o->p j->∀k∈qaw o,p k):∀(j:Nat) (S:Do),qof ops.toList j S=true->(∀k∈S,p k)->∀k,k<j->p k
 | 0,_,_,_,k,O=>by omega
 | j+1,S,h,U,k,O=>by
  rw[qof,AB]at h;have W:p j:=(by grind)
  by_cases e:k=j
  ·simp_all
  ·refine qth H j _ h.2 (λi hi=>?_) k Oo
   grind [qav]
theorem runK{K:Dk->Dr->Dl}{a:Act}(hi:ops[i]?=some o)(hg:Region.wanted o (yielded ops a.tmps)=true)(Z:Sw n ρ a)(hd:a.defers=ds)(h:runW P n r o K ρ ds w)(hk:∀O H U W,Sw n O U->U.defers=H->K O H W->K' U W):wpOpIn (Fr r) 0 P ops Q' i K' a w:=by
 unfold wpOpIn;rw[hi];dsimp only;rw[Af hg];refine q6f Z hd h λv H W hp=>?_;obtain⟨O,h1,h2,h3⟩:=Z.put H hp
 grind
theorem q0o{K:Dk->Dr->Dl}{a:Act}(hi:ops[i]?=some o)(hg:Region.wanted o (yielded ops a.tmps)=false)(ha:Sw n ρ a)(hd:a.defers=ds)(h:qqy n o K ρ ds w)(hk:∀H O W Z,Sw n H W->W.defers=O->K H O Z->K' W Z):wpOpIn (Fr r) 0 P ops Q' i K' a w:=by
 unfold wpOpIn;rw[hi];dsimp only;rw[Ab (by rw[hg];simp)];refine⟨λ_ _=>trivial,?_⟩;obtain⟨H,h1,h2,h3⟩:=ha.put ds h;have e:({ a with defers:=ds }:Act)=a:=by subst hd;rfl
 grind
theorem regK{ops:List Oper}{Q:Dk->Dr->Dl}{H:List Oper}(hi:ops.toArray[i]?=some o){a:Act}(W:Sw n ρ a)(hd:a.defers=ds)(h:regW P n r ops Q (o::H) ρ ds w)(ae:∀O U Z w',Sw n O Z->Z.defers=U->regW P n r ops Q H O U w'->K' Z w'):wpOpIn (Fr r) 0 P ops.toArray Q' i K' a w:=by
 unfold regW at h
 split at h
 ·grind [runK,Region.wanted]
 ·rename_i j ad hg
  split at h
  ·grind [qav,q0o,Region.wanted,yielded]
  ·rename_i oj hj
   split at h
   ·grind [q0o,qav,Region.wanted,yielded]
   ·rename_i d aa
    cases hn:Nat.blt d n<;>rw[hn]at h
    ·exact h.elim
    ·have ab:d<n:=by simpa using hn
     have hy:=W.yield hj aa ab;simp only[cond_true]at h
     split at h
     ·rename_i b hb
      rw[hb]at hy;cases b
      ·have h:=h.f rfl;have ac:Sw n _ a:=St.same W hb
       grind [runK,Region.wanted,q0o]
      ·have h:=h.t rfl;have ac:Sw n _ a:=St.same W hb
       grind [q0o,Region.wanted,runK]
     grind [q0o,Region.wanted]
def qgr(i c:Nat):Array Bool:=(List.replicate i true++List.replicate c false).toArray
theorem qlp(d:Bool)(h:j<i):(qgr i c).getD j d=true:=by
 simp_all[qgr,Bb]
theorem q2v(h:i<=j):(qgr i c).getD j false=false:=by
 rw[qgr,BM,Az,Be (by simpa using h),List.getElem?_replicate]
 grind
theorem q2u(h:i<=j)(H:j<i+c):(qgr i c).getD j true=false:=by
 simp_all[qgr]
theorem qxf(i c:Nat):(qgr i (c+1)).setIfInBounds i true=qgr (i+1) c:=by
 rw[<-Bs,BQ];show(List.replicate i true++List.replicate (c+1) false).set i true=List.replicate (i+1) true++List.replicate c false
 grind [List.replicate_succ']
theorem qoj{m:Nat}{ops:Array Oper}(U:TailP m ops){Q:QW}:∀(c i:Nat) (ρ:Dk) (ds:Dr) (a:Act) (w:Dd),m<=i->i+c=ops.size->Sw n ρ a->a.defers=ds->regW P n r ops.toList (Q .normal) (ops.toList.drop i) ρ ds w->
  wpAnyIn (Fr r) 0 P .any ops (qdr n Q) c (qgr i c) a w
 | 0,i,ρ,ds,a,w,W,hi,Z,hd,h=>by
  refine⟨qoh λk hk=>qlp _ Oo,ρ,Z,?_⟩;rw[List.drop_of_length_le Ys]at h;subst hd;exact h
 | c+1,i,ρ,ds,a,w,W,hi,Z,hd,h=>by
  have ad:i<ops.size:=by omega
  have H:ops[i]?=some ops[i]:=(by simp)
  have ae:i∈Region.ready .any ops (qgr i (c+1)):=by
   refine mem_ready.2 ⟨(by grind [q2u]),ops[i],H,λe he hb=>qlp _ ?_⟩;rw[qdd]at hb;exact U.lt i _ H _ (qb3.2 ⟨e,by simpa using he,hb,rfl⟩)
  refine⟨(by grind),λj hj=>?_⟩;obtain⟨O,o,ho,h2⟩:=mem_ready.1 hj;have af:=(BO.1 ho).1;have e:j=i:=by
   rcases AM j i with g|g
   ·rw[qlp _ g]at O;cases O
   ·rcases CA g with g|g
    ·exact g.symm
    ·exfalso
     obtain⟨e,he,hb,ag⟩:=qb3.1 (U.next j o ho Oo)
     grind [qdd,q2v]
  subst e;rw[qxf];have aa:ops.toList.drop j=ops[j]::ops.toList.drop (j+1):=by
   grind [List.drop_eq_getElem_cons]
  rw[aa]at h;have:=regK (ops:=ops.toList) (i:=j) (Q':=qdr n Q) (K':=wpAnyIn (Fr r) 0 P .any ops (qdr n Q) c (qgr (j+1) c)) Oo Z hd h λab ac a' w' O h2 h3=>qoj U c (j+1) ab ac a' w' Oo Oo O h2 h3
  omega
theorem q12(hT:TailP m ops)(a1:r=none\/qzg (ops.toList.take m)=true){Q:QW}:∀(fuel:Nat) (L:Array Bool) (a:Act) (w:Dd),L.size=m->L.toList.count false=fuel->
  (∀(j:Nat) (o:Oper),ops[j]?=some o->L.getD j false=true->∀k∈qaw o,L.getD k false=true)->
  wpAny P .any (ops.toList.take m).toArray (λe a' w'=>e=.normal/\∃O,St n O a'/\regW P n r ops.toList (Q .normal) (ops.toList.drop m) O ds w') fuel L a w->
  wpAnyIn (Fr r) 0 P .any ops (qdr n Q) (fuel+(ops.size-m)) (L++Array.replicate (ops.size-m) false) { a with defers:=a.defers++ds } w:=by
 intro fuel;have a2:=hT.msz;have ad:∀j:Nat,j<m->(ops.toList.take m).toArray[j]?=ops[j]?:=(by grind)
 have U:∀(L:Array Bool),L.size=m->∀(j:Nat) (d:Bool),j<m->(L++Array.replicate (ops.size-m) false).getD j d=L.getD j d:=λL hL j d hj=>by
  simp_all[Array.getElem?_append_left]
 have an:∀(L:Array Bool),L.size=m->∀j:Nat,m<=j->(L++Array.replicate (ops.size-m) false).getD j false=false:=λL hL j hj=>by
  rw[BM,Array.getElem?_append_right Oo,Array.getElem?_replicate]
  grind
 have af:∀(L:Array Bool),L.size=m->L.toList.count false=0->L=Array.replicate m true:=(by grind [Array.getElem_mem])
 have ao:∀(L:Array Bool) (a:Act) (w:Dd),L.size=m->L.toList.count false=0->(∃O,St n O a/\regW P n r ops.toList (Q .normal) (ops.toList.drop m) O ds w)->
   wpAnyIn (Fr r) 0 P .any ops (qdr n Q) (0+(ops.size-m)) (L++Array.replicate (ops.size-m) false) { a with defers:=a.defers++ds } w:=λL a w hL h0 ⟨O,Z,h2⟩=>by
  rw[af L hL h0,Aq];have e:Array.replicate m true++Array.replicate (ops.size-m) false=qgr m (ops.size-m):=by
   simp[qgr]
  rw[e];refine qoj hT (ops.size-m) m O ds _ w Oo Oo ?_ ?_ h2
  ·show St n O { a with defers:=[] };have:({ a with defers:=[] }:Act)=a:=by have:=Z.defers;cases a;cases this;rfl
   simp_all
  ·show a.defers++ds=ds;rw[Z.defers];rfl
 induction fuel with
 | zero=>
  intro L a w hL h0 ag h;exact ao L a w hL h0 h.2.2
 | succ fuel ih=>
  intro L a w hL h0 ag h;have aq:∀i,i∈Region.ready .any ops (L++Array.replicate (ops.size-m) false)↔i∈Region.ready .any (ops.toList.take m).toArray L:=by
   intro i
   constructor
   ·intro hi;obtain⟨g1,o,ho,g2⟩:=mem_ready.1 hi;have aa:i<m:=by
     refine Nat.lt_of_not_le λg=>?_;have ah:∀k∈qaw o,(L++Array.replicate (ops.size-m) false).getD k false=true:=λk hk=>by
      obtain⟨e,he,hb,ai⟩:=qb3.1 hk
      grind [qdd]
     rcases CA g with g|g
     ·subst g;have W:=qth (ops:=ops) (p:=λk=>L.getD k false=true) ag m _ (hT.reach o ho) λk hk=>by
       have:=ah k hk
       rwa[U L hL k false (by grind)]at this
      have hz:L.toList.count false=0:=by
       rw[List.count_eq_zero];intro ab;obtain⟨k,hk,e⟩:=BK.1 ab;have aj:k<L.size:=by omega
       have:=W k Oo;simp[aj]at this e
       grind
      omega
     ·have:=ah _ (hT.next i o ho g)
      grind
    refine mem_ready.2 ⟨by simp_all,o,by simp_all,λe he hb=>?_⟩;have Z:=g2 e he hb
    rwa[U L hL _ _ (by grind)]at Z
   ·intro hi;obtain⟨g1,o,ho,g2⟩:=mem_ready.1 hi;have aa:i<m:=by
     grind
    rw[ad i aa]at ho;refine mem_ready.2 ⟨by simp_all,o,ho,λe he hb=>?_⟩;rw[U L hL _ _ (by grind)]
    simp_all
  have a3:∃i,i∈Region.ready .any ops (L++Array.replicate (ops.size-m) false):=by
   have ab:false∈L.toList:=(by grind)
   obtain⟨k,hk,e⟩:=BK.1 ab;have aj:k<L.size:=by omega
   have hex:∃k,k<m/\L.getD k false=false:=⟨k,by omega,by simp_all⟩
   have ar:∀k,k<m->L.getD k false=false->∃i,i∈Region.ready .any ops (L++Array.replicate (ops.size-m) false):=by
    intro k
    induction k using Nat.strongRecOn with
    | _ k a4=>
     intro a5 a6;have ho:ops[k]?=some ops[k]:=(by simp)
     by_cases W:∀p∈qaw ops[k],L.getD p false=true
     ·refine⟨k,mem_ready.2 ⟨?_,ops[k],ho,λe he hb=>?_⟩⟩
      ·simp_all
      ·have hp:e.on∈qaw ops[k]:=qb3.2 ⟨e,by simpa using he,by rw[<-qdd];exact hb,rfl⟩;rw[U L hL _ _ (by grind)];exact W _ hp
     ·obtain⟨p,hp⟩:=Classical.not_forall.1 W;obtain⟨au,a7⟩:=Classical.not_imp.1 hp;have:=hT.lt k _ ho p au
      grind
   grind
  rw[show fuel+1+(ops.size-m)=(fuel+(ops.size-m))+1 by omega];refine⟨(by grind),λi hi=>?_⟩;have ak:=(aq i).1 hi;obtain⟨g1,o,ho,g2⟩:=mem_ready.1 ak;have aa:i<m:=by
   grind
  have ac:=ho;rw[ad i aa]at ac;have Z:=h.2 i ak;have av:(L++Array.replicate (ops.size-m) false).setIfInBounds i true=L.setIfInBounds i true++Array.replicate (ops.size-m) false:=by
   rw[<-Bs];simp only[BQ,Array.toList_append];rw[List.set_append_left _ _ (by simpa[hL]using aa)]
  have aw:L.getD i true=false:=g1;have a0:=V.countP_set L i aw;have ax:∀a' w',wpAny P .any (ops.toList.take m).toArray (λe a' w'=>e=.normal/\∃O,St n O a'/\regW P n r ops.toList (Q .normal) (ops.toList.drop m) O ds w') fuel (L.setIfInBounds i true) a' w'->
    wpAnyIn (Fr r) 0 P .any ops (qdr n Q) (fuel+(ops.size-m)) ((L++Array.replicate (ops.size-m) false).setIfInBounds i true) { a' with defers:=a'.defers++ds } w':=λa' w' hw=>by
   rw[av];refine ih _ a' w' (by simp[hL]) Oo (λj oj al ay k hk=>?_) hw
   by_cases am:i=j
   ·subst am;rw[ac]at al;cases al;obtain⟨e,he,hb,ai⟩:=qb3.1 hk;have:=g2 e (by simpa using he) (by rw[qdd];exact hb);rw[ai]at this;exact getD_set_true this
   ·rw[getD_set_ne false am]at ay
    grind [getD_set_true]
  have ae:∀tm,Region.wanted o (yielded ops tm)=Region.wanted o (yielded (ops.toList.take m).toArray tm):=λtm=>by
   cases hg:o.guard with
   | none=>simp[Region.wanted,hg]
   | some gb=>
    obtain⟨g,b⟩:=gb;have:=hT.guard i o g b ac aa hg;have e:yielded ops tm g=yielded (ops.toList.take m).toArray tm g:=by
     grind [yielded]
    simp only[Region.wanted,hg,e]
  have az:r=none\/∀c,o.op≠.defer c:=(by grind [qs3])
  unfold wpOp at Z;unfold wpOpIn;rw[ho]at Z;rw[ac];dsimp only at Z|-;rw[ae]
  split
  ·rename_i hw
   rw[Af hw]at Z
   rcases Z with Z|⟨_,a',w',hq⟩
   ·exact qk9 az (λ_ _ _ h=>h.1) ax Z
   grind
  ·rename_i hw
   rw[Ab hw]at Z;refine⟨λ_ _=>trivial,?_⟩;have hp:({ a with defers:=a.defers++ds }:Act).put o.dst undef={ a.put o.dst undef with defers:=(a.put o.dst undef).defers++ds }:=by cases o.dst<;>rfl
   grind
theorem DrawW.tail{Q:QW}(m:Nat)(hm:P.follows .mixedOrders=true)(hB:q93 m ops.toList=true)(O:r=none\/qzg (ops.toList.take m)=true)(h:AnyV P n (ops.toList.take m).toArray (λU w'=>regW P n r ops.toList (Q .normal) (ops.toList.drop m) U ds w') ρ w):DrawW P n r id ops Q ρ ds w:=by
 refine⟨λa ha hd=>wpIn_region_any hm ?_⟩;have hT:=q4x hB;have W:=hT.msz;have e:a={ ({ a with defers:=[] }:Act)with defers:=({ a with defers:=[] }:Act).defers++ds }:=by subst hd;rfl
 have Z:(ops.toList.take m).toArray.size=m:=by simp;omega
 have h0:=h.h { a with defers:=[] } ha;rw[Z]at h0;have h1:=q12 (r:=r) (Q:=Q) hT O m (Array.replicate m false) { a with defers:=[] } w.drew Js Js (λj o _ hl=>by rw[qdz]at hl;cases hl) h0;rw[<-e]at h1;have e2:m+(ops.size-m)=ops.size:=by omega
 have e3:Array.replicate m false++Array.replicate (ops.size-m) false=Array.replicate ops.size false:=by
  rw[<-Bs];simp[Nat.add_sub_cancel' (Nat.le_of_lt W)]
 rw[e2,e3]at h1;exact h1
end
end V
end Go.Proofs.YtccmcfpmknpccaaGreatDoor
