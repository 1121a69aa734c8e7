/- Lemmas and contracts of functions on the way to the law's card (part 12 of 20). -/
import Derived.Test.YtccmcfpmknpccaaGreatDoorSA11
import Derived.OrdersIn
namespace Go.Proofs.YtccmcfpmknpccaaGreatDoor
set_option maxHeartbeats 8000000
open Go.RowKit V
variable {a b c hi i id j k lo m off:Nat} {S:List Bool} {Q:Nat->Nat->Nat} {l:LB} {args cs:Eh} {w:DU} {R:Ea} {o:Oper} {ds:Ei} {ops:Array Oper} {ρ:Eb} {assign body:Code} {gf:FuncId} {lb:Ee} {J:Ed->Ec} {fr:Nat×Nat} {X:Ed} {K':Act->Ec} {Q':Exit->Act->Ec}
def byt(f:Nat->Nat)(b:Nat):Nat:=
 f (8*b)%2+2*(f (8*b+1)%2)+4*(f (8*b+2)%2)+8*(f (8*b+3)%2)+16*(f (8*b+4)%2)+32*(f (8*b+5)%2)+64*(f (8*b+6)%2)+128*(f (8*b+7)%2)
theorem qxf(f:Nat->Nat)(b:Nat):byt f b<256:=by unfold byt;omega
theorem qaeg(f:Nat->Nat)(b:Nat):∀{r:Nat},r<8->byt f b/2 ^ r%2=f (8*b+r)%2
 | 0,_=>by grind [byt]
 | 1,_=>by unfold byt;simp;omega
 | 2,_=>by unfold byt;simp;omega
 | 3,_=>by unfold byt;simp;omega
 | 4,_=>by unfold byt;simp;omega
 | 5,_=>by unfold byt;simp;omega
 | 6,_=>by unfold byt;simp;omega
 | 7,_=>by grind [byt]
 | _+8,h=>by omega
def qdl(f:Nat->Nat)(n:Nat):LB:=(List.range n).map λb=>UInt8.ofNat (byt f b)
theorem qdm(f:Nat->Nat)(n:Nat):(qdl f n).length=n:=by simp[qdl]
theorem q8f(f:Nat->Nat){n:Nat}(h:b<n):((qdl f n).getD b 0).toNat=byt f b:=by
 grind [qdl,qa0,qxf]
theorem qhw(f:Nat->Nat){n t:Nat}(h:t<8*n):bitN (qdl f n) t=f t%2:=by
 grind [bitN,q8f,qaeg]
def qcv(l:Ef)(w:Nat):LB:=qdl (λt=>l.getD (t/w) 0/2 ^ (t%w)) ((l.length*w+7)/8)
theorem qbz(l:Ef)(w:Nat):(qcv l w).length=(l.length*w+7)/8:=qdm _ _
theorem qsz{l:Ef}{w:Nat}(hi:i<l.length)(U:k<w):bitN (qcv l w) (i*w+k)=l.getD i 0/2 ^ k%2:=by
 have H:(i+1)*w<=l.length*w:=Bx _ hi;rw[Nat.add_mul]at H;have V:(i*w+k)/w=i:=by grind [Nat.mul_comm,Nat.mul_add_div,Nat.div_eq_of_lt]
 grind [Nat.mul_comm,Nat.mul_add_mod,Nat.mod_eq_of_lt,qcv,qhw]
theorem qoi{l:Ef}{w i:Nat}(hi:i<l.length):∀{k:Nat},k<=w->valB (qcv l w) (i*w) k=l.getD i 0%2 ^ k
 | 0,_=>by rw[valB,Nat.pow_zero,Nat.mod_one]
 | k+1,h=>by
  rw[valB,qoi hi Oo,qsz hi Oo,Nat.mod_pow_succ,Cf (2 ^ k)]
theorem qmk{l:Ef}{w:Nat}(hi:i<l.length)(h:l.getD i 0<2 ^ w):valB (qcv l w) (i*w) w=l.getD i 0:=by
 grind [qoi,Nat.mod_eq_of_lt]
theorem qmj(l:Ef)(w:Nat):¬PadB (qcv l w) (l.length*w):=by
 rintro⟨t,V,H,U⟩;rw[qbz]at H;rw[qcv,qhw _ H]at U;have W:0<w:=by
  grind
 simp_all[Nat.le_div_iff_mul_le]
theorem qqf:∀{n:Nat},n<18446744073709551616->n<2 ^ qah n:=by
 intro n
 induction n using Nat.strongRecOn<;>grind [qj4]
def plcL(L:List LB):Ef:=(List.range (upN L.length 16)).map λk=>(arL L (16*k)).length
def qam(L:List LB):LB:=arL L L.length
def qw(L:List LB):LB:=varL L.length++(varL (qam L).length++(qcv (plcL L) (qah (qam L).length)++qam L))
structure DOk(L:List LB):Prop where
 n:L.length<=4194304
 len:∀i,(tx L i).length<=262144
 rise:∀i,i+1<L.length->leL (tx L (i+1)) (tx L i)=false
 area:(qam L).length<=67108864
theorem qk1(L:List LB):(plcL L).length=upN L.length 16:=by simp[plcL]
theorem q5u{L:List LB}(h:k<upN L.length 16):(plcL L).getD k 0=(arL L (16*k)).length:=by
 grind [plcL]
section
variable {L:List LB} (h:DOk L)
include h
theorem DOk.num0:numL (qw L)=(L.length,(varL L.length).length,0):=qa9 (by have:=h.n;omega) _
theorem DOk.vAt1:vAt (qw L) 1=(varL L.length).length:=by rw[vAt,vAt,BF,h.num0,As]
theorem DOk.drop1:(qw L).drop (varL L.length).length=varL (qam L).length++(qcv (plcL L) (qah (qam L).length)++qam L):=have _:=h;qn _ _
theorem DOk.num1:numL ((qw L).drop (vAt (qw L) 1))=((qam L).length,(varL (qam L).length).length,0):=by
 rw[h.vAt1,h.drop1];exact qa9 (by have:=h.area;omega) _
theorem DOk.eN:dN (qw L)=L.length:=by rw[dN,vNum,vAt,BF,h.num0]
theorem DOk.eSize:qez (qw L)=(qam L).length:=by rw[qez,vNum,h.num1]
theorem DOk.eThird:qak (qw L)=(varL L.length).length+(varL (qam L).length).length:=by rw[qak,vAt,h.num1,h.vAt1]
theorem DOk.eFourth:ql (qw L)=(varL L.length).length+(varL (qam L).length).length+(qcv (plcL L) (qah (qam L).length)).length:=by
 rw[ql,h.eThird,h.eN,dW,h.eSize,qbz,qk1]
theorem DOk.eEntries:qd (qw L)=qam L:=by
 rw[qd,h.eFourth,<-Ar,<-Ar,h.drop1,qn,qn]
theorem DOk.ePlaces:qx (qw L)=qcv (plcL L) (qah (qam L).length):=by
 rw[qx,h.eFourth,h.eThird,<-Ar,h.drop1,qn,BJ,CN znr,Cb]
theorem DOk.len_eq:(qw L).length=(varL L.length).length+(varL (qam L).length).length+(qcv (plcL L) (qah (qam L).length)).length+(qam L).length:=by
 have _:=h;grind [qw]
theorem DOk.eE:(dE (qw L)).2=0:=by
 have V:(errF (dhF (qw L)) 2).2=0:=qbl λk H=>by
  have hn:=h.n;have U:=h.area
  match k,H with
  | 0,_=>rw[dhF,Ad rfl,qjq (by rw[vAt,BF,h.num0]) (by rw[show vNum (qw L) 0=_ from h.eN];exact hn)]
  | 1,_=>rw[dhF,Aa Od,qjq (by rw[h.num1]) (by rw[show vNum (qw L) 1=_ from h.eSize];exact U)]
 rw[dE,Aa Oo,dEnd,h.eFourth,h.eSize,h.len_eq,Aa Oo,Aa Oo]
theorem DOk.ePlace(H:k<upN L.length 16):q7 (qw L) k=(arL L (16*k)).length:=by
 have U:=h.area;have hn:16*k<=L.length:=by grind [upN]
 obtain⟨r,V⟩:=qpc L hn;have W:(arL L (16*k)).length<=(qam L).length:=by grind [qam]
 rw[q7,h.ePlaces,dW,h.eSize,qmk (by rw[qk1];exact H),q5u H]
 grind [q5u,qqf]
theorem DOk.eSt:∀{i:Nat},i<=L.length->dSt (qw L) i=(if i=0 then[]else tx L (i-1),(arL L i).length)
 | 0,_=>by rfl
 | i+1,hi=>by
  have H:=DOk.eSt (i:=i) Oo;obtain⟨r,U⟩:=qw5 L (i:=i) (n:=L.length) hi;have V:(if i=0 then[]else tx L (i-1)).length<=262144:=by split;exact Ag _;exact h.len _
  rw[qpk H rfl,h.eEntries,qam,U,qr6 r (h.len i) V,arL,zla,Aa (DQ i),Bm]
theorem DOk.ent(hi:i<L.length):∃r,(qd (qw L)).drop (dSt (qw L) i).2=entE (decide (i%16=0)) (dSt (qw L) i).1 (tx L i)++r:=by
 obtain⟨r,H⟩:=qw5 L (i:=i) (n:=L.length) hi;refine⟨r,?_⟩;rw[h.eSt Oo,h.eEntries];exact H
theorem DOk.enF(hi:i<L.length):(dnF (qw L) i).2=0:=by
 obtain⟨r,U⟩:=h.ent hi;have V:(dSt (qw L) i).1.length<=262144:=by rw[h.eSt Oo];show(if _ then _ else _:LB).length<=_;split;exact Ag _;exact h.len _
 have W:=qr6 (first:=decide (i%16=0)) r (h.len i) V;have H:(dSt (qw L) (i+1)).1=tx L i:=by rw[h.eSt Oo,Aa (DQ i),Bm]
 rw[dnF,U,W,H];rw[Aa (λg=>g.2 (by rw[h.ePlace (by unfold upN;omega),h.eSt Oo,show 16*(i/16)=i by omega]))];rw[Aa Js];rw[Aa (λg=>by
  have:=h.rise (i-1) Oo;rw[show i-1+1=i by omega]at this;rw[h.eSt Oo,Aa Oo]at g
  simp_all)]
 grind [entE,qa9,qlo,qln]
theorem DOk.eoE:doE (qw L)=(0,0):=by
 refine qaiy h.eE ?_ (λj H=>h.enF (by rw[<-h.eN];exact H)) ?_
 ·refine AD λg=>?_;have:=(qqn _ _ _).1 g;rw[h.ePlaces,h.eN,dW,h.eSize,<-qk1]at this;exact qmj _ _ this
 ·rw[h.eN,h.eSt znr,h.eEntries];exact D6 _
theorem DOk.eGet(hi:i<L.length):dGet (qw L) i=some (tx L i):=by
 have H:=(qhd (m:=qw L) (i:=i+1) λk U=>h.enF Oo).2 Oo (by rw[h.eN];omega);rw[Bm,h.eSt Oo,Aa Oo,Bm]at H;exact H
end
def jo3(a b c:LB):LB:=varL a.length++(varL b.length++(varL c.length++(a++(b++c))))
section
variable {a b c:LB} (h:a.length+b.length+c.length<=67108864)
include h
theorem q35:numL (jo3 a b c)=(a.length,(varL a.length).length,0):=qa9 Oo _
theorem qac3:vAt (jo3 a b c) 1=(varL a.length).length:=by grind [vAt,q35]
theorem q36:numL ((jo3 a b c).drop (vAt (jo3 a b c) 1))=(b.length,(varL b.length).length,0):=by
 grind [qac3,jo3,qa9]
theorem qac4:vAt (jo3 a b c) 2=(varL a.length).length+(varL b.length).length:=by rw[vAt,q36 h,qac3 h]
theorem q37:numL ((jo3 a b c).drop (vAt (jo3 a b c) 2))=(c.length,(varL c.length).length,0):=by
 grind [qac4,jo3,qa9]
theorem qac5:vAt (jo3 a b c) 3=(varL a.length).length+(varL b.length).length+(varL c.length).length:=by rw[vAt,q37 h,qac4 h]
theorem q38:vNum (jo3 a b c) 0=a.length:=by grind [vNum,vAt,q35]
theorem q39:vNum (jo3 a b c) 1=b.length:=by rw[vNum,q36 h]
theorem q4a:vNum (jo3 a b c) 2=c.length:=by rw[vNum,q37 h]
theorem qac6:qr (jo3 a b c) 1=vAt (jo3 a b c) 3+a.length:=by rw[qr,qr,q38 h]
theorem qac7:qr (jo3 a b c) 2=vAt (jo3 a b c) 3+a.length+b.length:=by rw[qr,qac6 h,q39 h]
theorem qajb:qr (jo3 a b c) 3=vAt (jo3 a b c) 3+a.length+b.length+c.length:=by rw[qr,qac7 h,q4a h]
theorem qp9:(jo3 a b c).drop (vAt (jo3 a b c) 3)=a++(b++c):=by
 rw[qac5 h,jo3,<-Ar,<-Ar,qn,qn,qn]
theorem qafk:(jo3 a b c).length=vAt (jo3 a b c) 3+a.length+b.length+c.length:=by
 grind [qac5,jo3]
theorem qajc:(sE (jo3 a b c)).2=0:=by
 have U:(errF (vsF (jo3 a b c)) 3).2=0:=qbl λk H=>by
  match k,H with
  | 0,_=>grind [vsF,qjq,vAt,q35,q38]
  | 1,_=>grind [vsF,qjq,q36,q39]
  | 2,_=>grind [vsF,qjq,q37,q4a]
 grind [sE,qajb,qafk]
theorem qai7:sDict (jo3 a b c) 0=a:=by
 grind [sDict,qr,qp9,q38]
theorem qai8:sDict (jo3 a b c) 1=b:=by
 grind [sDict,qac6,List.drop_drop,qp9,q39,List.take_left]
theorem qai9:sDict (jo3 a b c) 2=c:=by
 grind [sDict,qac7,List.drop_drop,qp9,qn,q4a]
end
def secE(T:List TM)(k:Nat):List LB:=(T.filter λt=>decide (t.kind=((k+1:Nat):Int))).map qal
def vocB(T:List TM):LB:=jo3 (qw (secE T 0)) (qw (secE T 1)) (qw (secE T 2))
structure VOk(T:List TM):Prop where
 d:∀k,k<3->DOk (secE T k)
 size:(qw (secE T 0)).length+(qw (secE T 1)).length+(qw (secE T 2)).length<=67108864
section
variable {T:List TM} (h:VOk T)
include h
theorem VOk.sDict{k:Nat}(H:k<3):sDict (vocB T) k=qw (secE T k):=
 match k,H with
 | 0,_=>qai7 h.size
 | 1,_=>qai8 h.size
 | 2,_=>qai9 h.size
theorem VOk.sE:(sE (vocB T)).2=0:=qajc h.size
theorem VOk.doE{k:Nat}(H:k<3):(doE (Go.Proofs.YtccmcfpmknpccaaGreatDoor.sDict (vocB T) k)).2=0:=by rw[h.sDict H,(h.d k H).eoE]
theorem VOk.dN{k:Nat}(H:k<3):dN (Go.Proofs.YtccmcfpmknpccaaGreatDoor.sDict (vocB T) k)=(secE T k).length:=by rw[h.sDict H,(h.d k H).eN]
theorem VOk.get(H:k<3)(U:j<(secE T k).length):dGet (Go.Proofs.YtccmcfpmknpccaaGreatDoor.sDict (vocB T) k) j=some (tx (secE T k) j):=by rw[h.sDict H,(h.d k H).eGet U]
theorem VOk.wE:(wE (vocB T)).2=0:=by
 rw[Go.Proofs.YtccmcfpmknpccaaGreatDoor.wE,Aa (by rw[h.sE];omega)];exact qbl λk H=>by rw[sdF,Ad (qbs (h.doE H)).1]
theorem VOk.vwE(ht:∀t∈T,qap t=0):(vwE (vocB T)).2=0:=by
 refine qaku h.sE (λk H=>h.doE H) λk H=>qaks λj W hb=>?_;rw[h.dN H]at W;obtain⟨s,Z,hn⟩:=hb;rw[h.get H W]at Z;cases Z;have U:j<(T.filter λt=>decide (t.kind=((k+1:Nat):Int))).length:=by grind [secE]
 have hm:=AH U;have V:=BK.1 hm;refine hn _ ⟨by simp_all,ht _ V.1,?_⟩
 grind [tx,secE]
end
section
variable {d:LB} {n:Nat} (hn:n<=67108864) (hd:d.length=upN n 8)
include hn
theorem qlf:vN (qat d n)=n:=by
 grind [qat,qt,vN,qfs]
theorem qro:vM (qat d n)=cnt d n:=by
 have H:=qlm d n;have e:((qat d n).drop 4).take 4=fixL (cnt d n) 4:=by
  rfl
 grind [vM,qfs]
include hd
theorem qzp:vD (qat d n)=d:=by
 rw[vD,qlf hn]
 simp_all[qat,fixL]
theorem q7x:vOk (qat d n)=true:=by
 grind [qd3,qlm,vOk,qlf,qro,qbe,qcs,qa6,qz]
theorem qace(H:¬PadB d n):voE (qat d n)=(0,0):=by
 grind [qakr,qzp,qlf,qro]
end
def frU(Q:Nat->Nat->Nat)(i:Nat):Nat->Bool
 | 0=>i==0||Q i 0 != Q (i-1) 0
 | k+1=>frU Q i k||Q i (k+1) != Q (i-1) (k+1)
theorem qh3(Q:Nat->Nat->Nat):∀k,frU Q 0 k=true
 | 0=>rfl
 | k+1=>by rw[frU,qh3 Q k];rfl
theorem qse{Q:Nat->Nat->Nat}{i k:Nat}(h:frU Q i k=true):∀{m:Nat},k<=m->frU Q i m=true
 | 0,H=>by rwa[Nat.le_zero.1 H]at h
 | m+1,H=>by
  by_cases e:k=m+1
  ·rwa[e]at h
  ·rw[frU,qse h (m:=m) Oo];rfl
theorem qgk{Q:Nat->Nat->Nat}{i:Nat}:∀{k:Nat},frU Q i k=false->0<i/\∀j,j<=k->Q i j=Q (i-1) j
 | 0,h=>by
  grind [frU]
 | k+1,h=>by
  simp only[frU,DA,bne_eq_false_iff_eq]at h;obtain⟨H,U⟩:=qgk h.1
  grind
theorem q3h{Q:Nat->Nat->Nat}{i:Nat}(H:0<i):∀{k:Nat},(∀j,j<=k->Q i j=Q (i-1) j)->frU Q i k=false
 | 0,h=>by simp only[frU,DA,beq_eq_false_iff_ne,bne_eq_false_iff_eq];exact⟨by omega,h 0 znr⟩
 | k+1,h=>by
  rw[frU,q3h H λj U=>h j Oo];simp only[D5,bne_eq_false_iff_eq];exact h (k+1) znr
def nuT(Q:Nat->Nat->Nat)(k:Nat):Nat->Ef
 | 0=>[]
 | i+1=>if frU Q i k=true then nuT Q k i++[Q i k]else nuT Q k i
def stT(Q:Nat->Nat->Nat)(k:Nat):Nat->List Bool
 | 0=>[]
 | i+1=>if frU Q i (k+1)=true then stT Q k i++[frU Q i k]else stT Q k i
def leT(Q:Nat->Nat->Nat)(k i:Nat):Nat:=(nuT Q k i).length
section
variable {Q:Nat->Nat->Nat}
theorem qar(h:frU Q i k=true):leT Q k (i+1)=leT Q k i+1:=by grind [leT,nuT]
theorem qbh(h:frU Q i k=false):leT Q k (i+1)=leT Q k i:=by grind [leT,nuT]
theorem q4m(k:Nat):∀i,leT Q k i<=i
 | 0=>Ai _
 | i+1=>by
  have:=q4m k i;cases h:frU Q i k with
  | true=>rw[qar h];omega
  | false=>rw[qbh h];omega
theorem qft(k:Nat)(h:0<i):0<leT Q k i:=by
 induction i with
 | zero=>omega
 | succ i H=>
  by_cases e:i=0
  ·grind [qar,qh3]
  ·have:=H Oo;cases h:frU Q i k<;>grind [qar,qbh]
theorem qa8(k:Nat){a:Nat}:∀{b:Nat},a<=b->leT Q k a<=leT Q k b
 | 0,h=>by rw[Nat.le_zero.1 h];exact Ai _
 | b+1,h=>by
  by_cases e:a=b+1
  ·rw[e];exact Ai _
  ·have:=qa8 k (a:=a) (b:=b) Oo;cases h:frU Q b k with
   | true=>rw[qar h];omega
   | false=>rw[qbh h];omega
theorem qso(k:Nat):∀i,leT Q k i<=leT Q (k+1) i
 | 0=>Ai _
 | i+1=>by
  have:=qso k i;cases h:frU Q i k with
  | true=>rw[qar h,qar (qse h (m:=k+1) (CF k))];omega
  | false=>
   rw[qbh h];cases H:frU Q i (k+1)with
   | true=>rw[qar H];omega
   | false=>rw[qbh H];omega
theorem qb2(k:Nat):∀i,(stT Q k i).length=leT Q (k+1) i
 | 0=>rfl
 | i+1=>by
  have:=qb2 k i;cases h:frU Q i (k+1)with
  | true=>rw[qar h,stT,Ad h];simp[this]
  | false=>rw[qbh h,stT,Aa (by rw[h];decide),this]
theorem qm8(k:Nat):∀i,(stT Q k i).count true=leT Q k i
 | 0=>rfl
 | i+1=>by
  have:=qm8 k i;cases h:frU Q i (k+1)with
  | true=>
   rw[stT,Ad h,List.count_append,this];cases H:frU Q i k with
   | true=>rw[qar H];rfl
   | false=>rw[qbh H];rfl
  | false=>
   have H:frU Q i k=false:=by
    cases H:frU Q i k with
    | true=>rw[qse H (m:=k+1) (CF k)]at h;cases h
    | false=>rfl
   rw[qbh H,stT,Aa (by rw[h];decide),this]
theorem qmg(k:Nat):∀{i n:Nat},i<n->(nuT Q k n).getD (leT Q k (i+1)-1) 0=Q i k
 | i,0,h=>by omega
 | i,n+1,h=>by
  by_cases e:i=n
  ·subst e;cases H:frU Q i k with
   | true=>
    rw[qar H,Bm,nuT,Ad H,Ah];simp[leT]
   | false=>
    have V:=qgk H;have U:=qmg k (i:=i-1) (n:=i) Oo;rw[qbh H,nuT,Aa (by rw[H];decide)];rw[BV Oo]at U;rw[U];exact(V.2 k znr).symm
  ·have U:=qmg k (i:=i) (n:=n) Oo;have W:=qa8 (Q:=Q) k (a:=i+1) (b:=n) Oo;have Z:=qft (Q:=Q) k (i:=i+1) Oo;cases H:frU Q n k with
   | true=>
    rw[nuT,Ad H,Ah,Ba (by show _<leT Q k n;omega),<-Ah];exact U
   | false=>rw[nuT,Aa (by rw[H];decide)];exact U
end
def laT(S:List Bool)(t:Nat):Nat:=if t+1=S.length then 1 else if S.getD (t+1) false=true then 1 else 0
def qbu(S:List Bool):LB:=qdl (laT S) (upN S.length 8)
theorem qajf(S:List Bool)(t:Nat):laT S t%2=laT S t:=by
 grind [laT]
theorem qc3(S:List Bool):(qbu S).length=upN S.length 8:=qdm _ _
theorem qfr{t:Nat}(h:t<S.length):bitN (qbu S) t=laT S t:=by
 grind [qbu,qhw,upN,qajf]
theorem qsm(S:List Bool):¬PadB (qbu S) S.length:=by
 rintro⟨t,H,U,V⟩
 grind [qc3,qbu,qhw,laT]
theorem qou(S:List Bool){e:Nat}(h:e<S.length):(S.take (e+1)).count true=(S.take e).count true+(if S.getD e false=true then 1 else 0):=by
 grind [List.take_succ_eq_append_getElem]
theorem ql6{S:List Bool}(H:S.getD 0 false=true):∀{e:Nat},e<S.length->cnt (qbu S) e+1=(S.take (e+1)).count true
 | 0,h=>by rw[qou S h,H];rfl
 | e+1,h=>by
  have U:=ql6 H (e:=e) Oo;rw[cnt,qou S h,qfr Oo,laT,Aa Oo];omega
theorem q4g(H:S.getD 0 false=true)(U:0<S.length):cnt (qbu S) S.length=S.count true:=by
 have V:=ql6 H (e:=S.length-1) Oo
 grind [cnt,qfr,laT]
theorem qrb(Q:Nat->Nat->Nat)(k:Nat){a:Nat}:∀{b:Nat},a<=b->∃r,stT Q k b=stT Q k a++r
 | 0,h=>⟨[],by simp_all⟩
 | b+1,h=>by
  by_cases e:a=b+1
  ·simp_all
  ·obtain⟨r,H⟩:=qrb Q k (a:=a) (b:=b) Oo
   grind [stT]
theorem qzc(Q:Nat->Nat->Nat)(k:Nat){n:Nat}(h:0<n):(stT Q k n).getD 0 false=true:=by
 obtain⟨r,H⟩:=qrb Q k (a:=1) (b:=n) h
 grind [stT,qh3]
theorem qm7(Q:Nat->Nat->Nat)(k:Nat){n:Nat}(h:i<n):cnt (qbu (stT Q k n)) (leT Q (k+1) (i+1)-1)=leT Q k (i+1)-1:=by
 have H:=qft (Q:=Q) (k+1) (i:=i+1) Oo;have U:=qa8 (Q:=Q) (k+1) (a:=i+1) (b:=n) h;have V:=ql6 (S:=stT Q k n) (qzc Q k Oo) (e:=leT Q (k+1) (i+1)-1) (by rw[qb2];omega);obtain⟨r,W⟩:=qrb Q k (a:=i+1) (b:=n) h
 grind [qb2,qm8]
def wiT(l:Ef):Nat:=wMx l l.length
def lvB(Q:Nat->Nat->Nat)(n k:Nat):LB:=
 UInt8.ofNat (wiT (nuT Q k n))::(qcv (nuT Q k n) (wiT (nuT Q k n))++(if k=0 then[]else qat (qbu (stT Q (k-1) n)) (leT Q k n)))
def tlB(Q:Nat->Nat->Nat)(n:Nat):Nat->LB
 | 0=>[]
 | j+1=>lvB Q n (3-j)++tlB Q n j
def qu(Q:Nat->Nat->Nat)(n:Nat):LB:=
 varL (leT Q 0 n)++(varL (leT Q 1 n)++(varL (leT Q 2 n)++(varL (leT Q 3 n)++tlB Q n 4)))
structure TOk(Q:Nat->Nat->Nat)(n:Nat):Prop where
 nle:n<=1048576
 num:∀i k,i<n->k<4->(k≠0->1<=Q i k)/\Q i k<=4194304
 rise:∀i,0<i->i<n->∃k,k<4/\(∀j,j<k->Q i j=Q (i-1) j)/\Q (i-1) k<Q i k
theorem qadz{l:Ef}{m:Nat}(h:∀x∈l,qah x<=m):∀i,wMx l i<=m
 | 0=>Ag _
 | i+1=>by
  have H:=qadz h i;rw[wMx]
  by_cases hi:i<l.length
  ·have:=h (l.getD i 0) (by rw[Ah,zge hi];exact AH hi);omega
  ·rw[Ah,Bh Oo];have:qah (Option.getD (none:Option Nat) 0)=0:=qgv;omega
theorem qady(l:Ef){i:Nat}:∀{n:Nat},i<n->qah (l.getD i 0)<=wMx l n
 | 0,h=>by omega
 | n+1,h=>by
  rw[wMx]
  by_cases e:i=n
  ·grind
  ·have:=qady l (i:=i) (n:=n) Oo;omega
theorem qjp{Q:Nat->Nat->Nat}{k x:Nat}:∀{n:Nat},x∈nuT Q k n->∃i,i<n/\Q i k=x
 | 0,h=>by cases h
 | n+1,h=>by
  rw[nuT]at h
  split at h
  ·rcases Bc.1 h with h|h
   ·obtain⟨i,U,H⟩:=qjp h;exact⟨i,by omega,H⟩
   ·exact⟨n,by omega,(Ak.1 h).symm⟩
  ·obtain⟨i,U,H⟩:=qjp h;exact⟨i,by omega,H⟩
section
variable {Q:Nat->Nat->Nat} {n:Nat} (h:TOk Q n)
include h
theorem TOk.wi(H:k<4):wiT (nuT Q k n)<=23:=qadz (λx U=>by
 obtain⟨i,V,rfl⟩:=qjp U;exact qcq 23 _ (by have:=(h.num i k V H).2;omega) Od) _
theorem TOk.le(k:Nat):leT Q k n<=1048576:=AI (q4m k n) h.nle
theorem TOk.n0:numL (qu Q n)=(leT Q 0 n,(varL (leT Q 0 n)).length,0):=qa9 (by have:=h.le 0;omega) _
theorem TOk.a1:vAt (qu Q n) 1=(varL (leT Q 0 n)).length:=by rw[vAt,vAt,BF,h.n0,As]
theorem TOk.n1:numL ((qu Q n).drop (vAt (qu Q n) 1))=(leT Q 1 n,(varL (leT Q 1 n)).length,0):=by
 rw[h.a1,qu,qn];exact qa9 (by have:=h.le 1;omega) _
theorem TOk.a2:vAt (qu Q n) 2=(varL (leT Q 0 n)).length+(varL (leT Q 1 n)).length:=by rw[vAt,h.n1,h.a1]
theorem TOk.n2:numL ((qu Q n).drop (vAt (qu Q n) 2))=(leT Q 2 n,(varL (leT Q 2 n)).length,0):=by
 rw[h.a2,qu,<-Ar,qn,qn];exact qa9 (by have:=h.le 2;omega) _
theorem TOk.a3:vAt (qu Q n) 3=(varL (leT Q 0 n)).length+(varL (leT Q 1 n)).length+(varL (leT Q 2 n)).length:=by rw[vAt,h.n2,h.a2]
theorem TOk.n3:numL ((qu Q n).drop (vAt (qu Q n) 3))=(leT Q 3 n,(varL (leT Q 3 n)).length,0):=by
 rw[h.a3,qu,<-Ar,<-Ar,qn,qn,qn];exact qa9 (by have:=h.le 3;omega) _
theorem TOk.a4:vAt (qu Q n) 4=(varL (leT Q 0 n)).length+(varL (leT Q 1 n)).length+(varL (leT Q 2 n)).length+(varL (leT Q 3 n)).length:=by rw[vAt,h.n3,h.a3]
theorem TOk.numOk(H:k<4):(numL ((qu Q n).drop (vAt (qu Q n) k))).2.2=0:=
 match k,H with
 | 0,_=>by rw[vAt,BF,h.n0]
 | 1,_=>by rw[h.n1]
 | 2,_=>by rw[h.n2]
 | 3,_=>by rw[h.n3]
theorem TOk.vNum{k:Nat}(H:k<4):vNum (qu Q n) k=leT Q k n:=
 match k,H with
 | 0,_=>by rw[Go.Proofs.YtccmcfpmknpccaaGreatDoor.vNum,vAt,BF,h.n0]
 | 1,_=>by rw[Go.Proofs.YtccmcfpmknpccaaGreatDoor.vNum,h.n1]
 | 2,_=>by rw[Go.Proofs.YtccmcfpmknpccaaGreatDoor.vNum,h.n2]
 | 3,_=>by rw[Go.Proofs.YtccmcfpmknpccaaGreatDoor.vNum,h.n3]
theorem TOk.cnt{k:Nat}:cnt (qbu (stT Q k n)) (leT Q (k+1) n)=leT Q k n:=by
 by_cases H:n=0
 ·subst H;rfl
 grind [q4g,qzc,qb2,qm8]
theorem TOk.lvLen:(lvB Q n k).length=1+(leT Q k n*wiT (nuT Q k n)+7)/8+(if k=0 then 0 else qbe (leT Q k n) (leT Q (k-1) n)):=by
 rw[lvB,AC,zla,qbz];show(leT Q k n*_+7)/8+_+1=_
 by_cases e:k=0
 ·grind
 ·obtain⟨m,rfl⟩:∃m,k=m+1:=⟨k-1,by omega⟩
  rw[Aa e,Aa e,qd3,Bm,h.cnt,qc3,qb2];unfold qbe qcs qa6 qz;omega
theorem TOk.tail:k<=4->(qu Q n).drop (tvAt (qu Q n) k)=tlB Q n (4-k):=by
 induction k with
 | zero=>
  intro _;rw[tvAt,h.a4,qu,<-Ar,<-Ar,<-Ar,qn,qn,qn,qn]
 | succ k H=>
  intro hk;have H:=H Oo;obtain⟨j,V⟩:∃j,4-k=j+1:=⟨3-k,by omega⟩
  have U:3-j=k:=by omega
  rw[V,tlB,U]at H;have hw:=h.wi (k:=k) Oo;have W:((qu Q n).getD (tvAt (qu Q n) k) 0).toNat=wiT (nuT Q k n):=by
   have:(qu Q n).getD (tvAt (qu Q n) k) 0=((qu Q n).drop (tvAt (qu Q n) k)).getD 0 0:=by simp
   grind [lvB,qa0]
  have Z:tvAt (qu Q n) (k+1)=tvAt (qu Q n) k+(lvB Q n k).length:=by
   rw[tvAt,W,h.vNum Oo,h.lvLen]
   by_cases e:k=0
   ·grind
   ·rw[Aa e,Aa e,h.vNum (k:=k-1) Oo];omega
  rw[Z,<-Ar,H,qn,show 4-(k+1)=j by omega]
theorem TOk.tw{k:Nat}(U:k<4):tw (qu Q n) k=wiT (nuT Q k n):=by
 have H:=h.tail (k:=k) Oo;obtain⟨j,V⟩:∃j,4-k=j+1:=⟨3-k,by omega⟩
 rw[V,tlB,show 3-j=k by omega]at H;have:(qu Q n).getD (tvAt (qu Q n) k) 0=((qu Q n).drop (tvAt (qu Q n) k)).getD 0 0:=by simp
 have W:=h.wi U;rw[Go.Proofs.YtccmcfpmknpccaaGreatDoor.tw,this,H,lvB];exact qa0 Oo
theorem TOk.tEnd{k:Nat}(H:k<4):tEnd (qu Q n) k=tvAt (qu Q n) k+1+(qcv (nuT Q k n) (wiT (nuT Q k n))).length:=by
 rw[Go.Proofs.YtccmcfpmknpccaaGreatDoor.tEnd,h.tw H,h.vNum H,qbz];rfl
theorem TOk.packed(U:k<4):qg (qu Q n) k=qcv (nuT Q k n) (wiT (nuT Q k n)):=by
 have H:=h.tail (k:=k) Oo;obtain⟨j,V⟩:∃j,4-k=j+1:=⟨3-k,by omega⟩
 rw[V,tlB,show 3-j=k by omega]at H;rw[qg,h.tEnd U,BJ,<-Ar,H,lvB,Bi,List.drop_succ_cons,BF,Aw,Dc]
theorem TOk.bytes(H:k<4)(U:k≠0):qe (qu Q n) k=qat (qbu (stT Q (k-1) n)) (leT Q k n):=by
 have V:=h.tail (k:=k) Oo;obtain⟨j,W⟩:∃j,4-k=j+1:=⟨3-k,by omega⟩
 rw[W,tlB,show 3-j=k by omega]at V;obtain⟨m,rfl⟩:∃m,k=m+1:=⟨k-1,by omega⟩
 have Z:qbe (leT Q (m+1) n) (leT Q m n)=(qat (qbu (stT Q m n)) (leT Q (m+1) n)).length:=by
  rw[qd3,h.cnt,qc3,qb2];rfl
 rw[qe,qbb,Aa U,h.vNum H,h.vNum (k:=m+1-1) Oo,BJ,Bm,Z,h.tEnd H,<-Ar,<-Ar,V,lvB,Bi,List.drop_succ_cons,BF,Aw,qn,Aa U,Bm,Dc]
end
theorem qj5(Q:Nat->Nat->Nat)(k:Nat){e:Nat}:∀{n:Nat},e<leT Q k n->∃i,i<n/\frU Q i k=true/\leT Q k i=e
 | 0,h=>by cases h
 | n+1,h=>by
  cases H:frU Q n k with
  | true=>
   rw[qar H]at h
   by_cases W:e=leT Q k n
   ·exact⟨n,by omega,H,W.symm⟩
   ·obtain⟨i,Z,U,V⟩:=qj5 Q k (e:=e) (n:=n) Oo;exact⟨i,by omega,U,V⟩
  | false=>
   rw[qbh H]at h;obtain⟨i,Z,U,V⟩:=qj5 Q k h;exact⟨i,by omega,U,V⟩
theorem q6s(Q:Nat->Nat->Nat)(k:Nat){n:Nat}(h:i<n)(H:frU Q i (k+1)=true):(stT Q k n).getD (leT Q (k+1) i) false=frU Q i k:=by
 obtain⟨r,U⟩:=qrb Q k (a:=i+1) (b:=n) h
 grind [stT,qb2]
theorem q5c{n e:Nat}(h:∀i,i<n->Q i k<18446744073709551616)(H:e<leT Q k n):(nuT Q k n).getD e 0<2 ^ wiT (nuT Q k n):=by
 have V:=qady (nuT Q k n) (i:=e) (n:=(nuT Q k n).length) H;have W:(nuT Q k n).getD e 0∈nuT Q k n:=by
  rw[Ah,zge (show e<(nuT Q k n).length from H)];simp
 obtain⟨i,Z,h4⟩:=qjp W;have U:=h i Z;rw[h4]at U;exact Bf (qqf U) (AY Od V)
section
variable {Q:Nat->Nat->Nat} {n:Nat} (h:TOk Q n)
include h
theorem TOk.big(H:k<4):∀i,i<n->Q i k<18446744073709551616:=λi hi=>by have:=(h.num i k hi H).2;omega
theorem TOk.tX{k e:Nat}(H:k<4)(U:e<leT Q k n):tX (qu Q n) k e=(nuT Q k n).getD e 0:=by
 rw[Go.Proofs.YtccmcfpmknpccaaGreatDoor.tX,h.packed H,h.tw H];exact qmk U (q5c (h.big H) U)
theorem TOk.len(H:k<4):tvAt (qu Q n) k<(qu Q n).length/\tvAt (qu Q n) (k+1)<=(qu Q n).length:=by
 have U:=h.tail (k:=k) Oo;have W:=h.tail (k:=k+1) Oo;obtain⟨j,Z⟩:∃j,4-k=j+1:=⟨3-k,by omega⟩
 rw[Z,tlB]at U;rw[show 4-(k+1)=j by omega]at W;have V:=Ae List.length U;rw[zld,zla,show 3-j=k by omega,h.lvLen]at V;refine⟨by omega,?_⟩;rw[qbb,h.tEnd H,qbz];show tvAt (qu Q n) k+1+(leT Q k n*_+7)/8+_<=_
 by_cases e:k=0
 ·grind
 ·rw[Aa e]at V|-;rw[h.vNum H,h.vNum (k:=k-1) Oo];omega
theorem TOk.tE:(tE (qu Q n)).2=0:=by
 have h1:(errF (tcF (qu Q n)) 4).2=0:=qbl λk H=>by
  have e0:numE (qu Q n) k 1048576=(0,0):=qjq (h.numOk H) (by rw[h.vNum H];exact h.le k);rw[tcF,Aa (by simp_all),Aa];rintro⟨V,U⟩;obtain⟨m,rfl⟩:∃m,k=m+1:=⟨k-1,by omega⟩
  rw[Bm,h.vNum H,h.vNum (k:=m) Oo]at U;have W:=qso (Q:=Q) m n
  rcases U with U|U
  ·omega
  ·refine U ⟨λZ=>?_,λZ=>by omega⟩
   by_cases e:n=0
   ·subst e;rfl
   grind [qft]
 have h2:(errF (tvF (qu Q n)) 4).2=0:=qbl λk H=>by
  obtain⟨V,U⟩:=h.len H;have W:=h.wi H;rw[tvF,Aa Oo,h.tw H,Aa Oo,Aa Oo]
 have h3:=Ae List.length (h.tail (k:=4) znr);rw[zld,BU,tlB,BO]at h3;rw[Go.Proofs.YtccmcfpmknpccaaGreatDoor.tE,Aa Oo,Aa Oo,Aa Oo]
theorem TOk.vec(H:k+1<4):vOk (qe (qu Q n) (k+1))=true/\vN (qe (qu Q n) (k+1))=leT Q (k+1) n/\vM (qe (qu Q n) (k+1))=leT Q k n/\
  vD (qe (qu Q n) (k+1))=qbu (stT Q k n)/\voE (qe (qu Q n) (k+1))=(0,0):=by
 have V:=h.le (k+1);have hn:leT Q (k+1) n<=67108864:=by omega
 have hd:(qbu (stT Q k n)).length=upN (leT Q (k+1) n) 8:=by rw[qc3,qb2]
 have U:¬PadB (qbu (stT Q k n)) (leT Q (k+1) n):=by grind [qb2,qsm]
 rw[h.bytes H Oo,Bm];exact⟨q7x hn hd,qlf hn,by rw[qro hn,h.cnt],qzp hn hd,qace hn hd U⟩
theorem TOk.bit{e:Nat}(H:k+1<4)(V:e<leT Q (k+1) n):bitN ((qe (qu Q n) (k+1)).drop 8) e=laT (stT Q k n) e:=by
 obtain⟨_,W,_,U,_⟩:=h.vec H;have Z:=Ae (λd=>bitN d e) U
 grind [vD,qdk,upN,qfr,qb2]
theorem TOk.vcE{k:Nat}(H:k+1<4):vcE (qu Q n) (k+1)=(0,0):=by
 obtain⟨U,V,W,h4,Z⟩:=h.vec H;refine qakp ?_ (by rw[Z]) λg=>?_
 ·simp only[tVec,AQ,decide_eq_true_eq];exact⟨⟨U,by rw[V,h.vNum H]⟩,by rw[W,Bm,h.vNum Oo]⟩
 ·rw[h.vNum H]at g|-;rw[h.bit H Oo,laT,Ad (by rw[qb2];omega)]
theorem TOk.order{e:Nat}(hk:k<4)(U:0<e)(he:e<leT Q k n)(V:k=0\/bitN ((qe (qu Q n) k).drop 8) (e-1)≠1):(nuT Q k n).getD (e-1) 0<(nuT Q k n).getD e 0:=by
 obtain⟨i,W,Z,H⟩:=qj5 Q k he;have hi:0<i:=by
  rcases B9 i with e|e
  ·subst e;rw[<-H]at U;exact(D6 0 U).elim
  ·exact e
 have g1:=qmg (Q:=Q) k (i:=i) (n:=n) W;rw[qar Z,Bm,H]at g1;have g2:=qmg (Q:=Q) k (i:=i-1) (n:=n) Oo;rw[BV hi,H]at g2;rw[g1,g2];obtain⟨m,r1,r2,r3⟩:=h.rise i hi W;have hm:k<=m:=by
  by_cases e0:k=0
  ·omega
  ·have V:=V.resolve_left e0;obtain⟨p,rfl⟩:∃p,k=p+1:=⟨k-1,by omega⟩
   rw[h.bit hk Oo,laT,qb2,Aa Oo,BV U,<-H,q6s Q p W Z]at V
   grind [qgk]
 grind [q3h]
end
theorem q7c{l:Ef}{w:Nat}(h:∀i,i<l.length->l.getD i 0<2 ^ w):unpN (qcv l w) l.length w=l:=by
 apply D3
 all_goals grind [unpN,qmk]
section
variable {Q:Nat->Nat->Nat} {n:Nat} (h:TOk Q n)
include h
theorem TOk.lvE{k:Nat}(H:k<4):(lvE (qu Q n) k).2=0:=by
 refine qajo ?_ ?_ ?_ ?_
 ·refine AD λg=>?_;have V:=(qqn _ _ _).1 g;rw[h.packed H,h.tw H,h.vNum H]at V;exact qmj _ _ V
 ·rw[h.packed H,h.tw H,h.vNum H,show leT Q k n=(nuT Q k n).length from rfl,q7c λi hi=>q5c (h.big H) hi];rfl
 ·by_cases e:k=0
  ·exact .inl e
  ·obtain⟨m,rfl⟩:∃m,k=m+1:=⟨k-1,by omega⟩
   exact .inr (by rw[h.vcE H])
 ·intro e U;rw[h.vNum H]at U;have W:(nuT Q k n).getD e 0∈nuT Q k n:=by
   rw[Ah,zge (show e<(nuT Q k n).length from U)];simp
  obtain⟨i,Z,h2⟩:=qjp W;obtain⟨h3,h4⟩:=h.num i k Z H;rw[h2]at h3 h4;rw[qajs]
  ·rw[h.tX H U];omega
  ·rintro⟨V,g2,g3⟩;rw[h.tX H U,h.tX H Oo]at g3;have:=h.order H V U g2;omega
theorem TOk.toE:(toE (qu Q n)).2=0:=qaki h.tE λ_ H=>h.lvE H
theorem TOk.fresh(hi:i<n):frU Q i 3=true:=by
 by_cases H:i=0
 ·grind [qh3]
 ·obtain⟨k,U,V,W⟩:=h.rise i Oo hi
  grind [frU]
theorem TOk.all:∀{i:Nat},i<=n->leT Q 3 i=i
 | 0,_=>rfl
 | i+1,hi=>by rw[qar (h.fresh hi),TOk.all Oo]
theorem TOk.up(hi:i<n):∀{j:Nat},j<4->tUp (qu Q n) i j=leT Q (3-j) (i+1)-1
 | 0,_=>by rw[tUp,h.all Oo];rfl
 | j+1,hj=>by
  have U:=TOk.up hi (j:=j) Oo;obtain⟨k,H⟩:∃k,3-j=k+1:=⟨2-j,by omega⟩
  have V:=qbq h.toE (3-j) Oo Oo;have hp:=qft (Q:=Q) (k+1) (i:=i+1) Oo;have hm:=qa8 (Q:=Q) (k+1) (a:=i+1) (b:=n) hi;rw[tUp,U,V.rank _ (by rw[h.vNum Oo,H];omega),H];obtain⟨_,W,_,Z,_⟩:=h.vec (k:=k) Oo;rw[<-qxo _ _ (by rw[W];omega),Z,qm7 Q k hi,show 3-(j+1)=k by omega]
theorem TOk.tNum{i k:Nat}(hi:i<n)(H:k<4):tNum (qu Q n) i k=Q i k:=by
 have U:=qft (Q:=Q) k (i:=i+1) Oo;have V:=qa8 (Q:=Q) k (a:=i+1) (b:=n) hi;have W:=h.wi H;rw[Go.Proofs.YtccmcfpmknpccaaGreatDoor.tNum,h.up hi Oo,show 3-(3-k)=k by omega,qky _ _ _ (by rw[h.tw H];omega)];exact(h.tX H (e:=leT Q k (i+1)-1) Oo).trans (qmg k hi)
end
def bndT(Q:Nat->Nat->Nat)(k p:Nat):Nat->Nat
 | 0=>0
 | i+1=>if leT Q k (i+1)<=p then i+1 else bndT Q k p i
section
variable {Q:Nat->Nat->Nat}
theorem qd9(k p:Nat):∀n,bndT Q k p n<=n
 | 0=>Ai _
 | i+1=>by
  rw[bndT]
  split
  ·exact Ai _
  ·exact Nat.le_succ_of_le (qd9 k p i)
theorem qcc(k p:Nat):∀{n i:Nat},i<n->(i<bndT Q k p n↔leT Q k (i+1)<=p)
 | 0,_,h=>absurd h (BL _)
 | n+1,i,h=>by
  rw[bndT]
  split
  ·rename_i g
   have:=qa8 (Q:=Q) k (a:=i+1) (b:=n+1) h;exact⟨λ_=>by omega,λ_=>h⟩
  ·rename_i g
   by_cases e:i=n
   ·subst e;have:=qd9 (Q:=Q) k p i;exact⟨λ_=>by omega,λh=>absurd h g⟩
   ·exact qcc k p Oo
theorem qhx(k:Nat){p q:Nat}(h:p<=q)(n:Nat):bndT Q k p n<=bndT Q k q n:=by
 rcases Bj (bndT Q k q n) (bndT Q k p n)with g|g
 ·have H:=qd9 (Q:=Q) k p n;have U:=(qcc (Q:=Q) k p (n:=n) (i:=bndT Q k q n) Oo).1 g;have V:=(qcc (Q:=Q) k q (n:=n) (i:=bndT Q k q n) Oo).2 Oo;omega
 ·exact g
theorem qrv(k n:Nat):bndT Q k 0 n=0:=by
 rcases B9 (bndT Q k 0 n)with g|g
 all_goals grind [qd9,qcc,qft]
theorem qpd(k:Nat){p n:Nat}(h:leT Q k n<=p):bndT Q k p n=n:=by
 cases n<;>grind [bndT]
def chT(Q:Nat->Nat->Nat)(n k p:Nat):Nat:=leT Q (k+1) (bndT Q k p n)
theorem qn3(k p n:Nat):bndT Q (k+1) (chT Q n k p) n=bndT Q k p n:=by
 have V:=qd9 (Q:=Q) k p n;have W:=qd9 (Q:=Q) (k+1) (chT Q n k p) n;refine Nat.le_antisymm ?_ ?_
 ·refine Di.1 λg=>?_;have H:=(qcc (Q:=Q) (k+1) (chT Q n k p) (n:=n) (i:=bndT Q k p n) Oo).1 g;have U:¬leT Q k (bndT Q k p n+1)<=p:=λe=>D6 _ ((qcc (Q:=Q) k p (n:=n) (i:=bndT Q k p n) Oo).2 e)
  have Z:frU Q (bndT Q k p n) k=true:=by
   cases e:frU Q (bndT Q k p n) k with
   | true=>rfl
   | false=>
    exfalso
    have h6:=qbh (Q:=Q) e;have h7:=(qgk e).1;have h8:=(qcc (Q:=Q) k p (n:=n) (i:=bndT Q k p n-1) Oo).1 Oo
    grind
  grind [qar,qse,chT]
 ·refine Di.1 λg=>?_;have H:¬leT Q (k+1) (bndT Q (k+1) (chT Q n k p) n+1)<=chT Q n k p:=λe=>D6 _ ((qcc (Q:=Q) (k+1) (chT Q n k p) (n:=n) (i:=bndT Q (k+1) (chT Q n k p) n) Oo).2 e)
  have U:=qa8 (Q:=Q) (k+1) (a:=bndT Q (k+1) (chT Q n k p) n+1) (b:=bndT Q k p n) g;exact H U
def agB(P:Nat->Int)(k x:Nat):Bool:=decide (P k<0)||decide (P k=(x:Int))
def agF(P:Nat->Int)(Q:Nat->Nat->Nat)(i:Nat):Nat->Nat->Bool
 | _,0=>true
 | k,m+1=>agB P k (Q i k)&&agF P Q i (k+1) m
def maT(P:Nat->Int)(Q:Nat->Nat->Nat)(k a b:Nat):Ef:=((List.range b).drop a).filter λi=>agF P Q i k (4-k)
theorem q50(H:a<=b)(U:b<=c):(List.range c).drop a=(List.range b).drop a++(List.range c).drop b:=by
 have e:List.range c=List.range b++(List.range c).drop b:=by
  conv=>lhs;rw[<-AW b (List.range c)]
  simp_all
 grind
theorem qafw(P:Nat->Int)(k:Nat)(H:a<=b)(U:b<=c):maT P Q k a c=maT P Q k a b++maT P Q k b c:=by
 grind [maT,q50]
theorem qafx(P:Nat->Int)(k:Nat)(h:b<=a):maT P Q k a b=[]:=by
 grind [maT,List.drop_eq_nil_of_le]
theorem qnr:i∈(List.range b).drop a↔a<=i/\i<b:=by
 rw[AP]
 constructor
 ·grind
 ·rintro⟨H,U⟩;exact⟨i-a,by simp_all⟩
theorem qh7(P:Nat->Int){p n:Nat}(W:k<4):maT P Q k (bndT Q k p n) (bndT Q k (p+1) n)=if agB P k ((nuT Q k n).getD p 0)=true then maT P Q (k+1) (bndT Q k p n) (bndT Q k (p+1) n)else[]:=by
 have hn:=qd9 (Q:=Q) k (p+1) n;have H:∀i∈(List.range (bndT Q k (p+1) n)).drop (bndT Q k p n),agF P Q i k (4-k)=(agB P k ((nuT Q k n).getD p 0)&&agF P Q i (k+1) (4-(k+1))):=by
  intro i hi;obtain⟨Z,V⟩:=qnr.1 hi;have h3:=(qcc (Q:=Q) k (p+1) (n:=n) (i:=i) Oo).1 V;have h4:¬leT Q k (i+1)<=p:=λe=>by have:=(qcc (Q:=Q) k p (n:=n) (i:=i) Oo).2 e;omega
  have U:=qmg (Q:=Q) k (i:=i) (n:=n) Oo;rw[show leT Q k (i+1)-1=p by omega]at U;rw[U,show 4-k=(4-(k+1))+1 by omega];rfl
 rw[maT,List.filter_congr H]
 split
 ·rename_i h;rw[h];rfl
 simp_all
end
section
variable {Q:Nat->Nat->Nat}
theorem qsn(k:Nat){a:Nat}:∀{b:Nat},a<=b->leT Q (k+1) a=leT Q (k+1) b->leT Q k a=leT Q k b
 | 0,h,_=>by simp_all
 | b+1,h,V=>by
  by_cases e:a=b+1
  ·rw[e]
  ·have W:=qa8 (Q:=Q) (k+1) (a:=a) (b:=b) Oo;cases H:frU Q b (k+1)with
   | true=>rw[qar H]at V;omega
   | false=>
    have U:frU Q b k=false:=by
     cases U:frU Q b k with
     | true=>rw[qse U (m:=k+1) (CF k)]at H;cases H
     | false=>rfl
    rw[qbh U];exact qsn k Oo (by rw[V,qbh H])
theorem qaco{p n s:Nat}(hs:s<leT Q (k+1) n)(U:laT (stT Q k n) s=1)(hc:cnt (qbu (stT Q k n)) s=p):s+1=chT Q n k (p+1):=by
 obtain⟨i,hi,hf,he⟩:=qj5 Q (k+1) hs;have h1:=qar (Q:=Q) hf;rw[he]at h1;have h2:=qm7 Q k hi;rw[h1,Bm,hc]at h2;have h3:=qft (Q:=Q) k (i:=i+1) Oo;have hp:leT Q k (i+1)=p+1:=by omega
 have V:=(qcc (Q:=Q) k (p+1) (n:=n) (i:=i) hi).2 Oo;have W:=qd9 (Q:=Q) k (p+1) n;have af:=qa8 (Q:=Q) (k+1) (a:=i+1) (b:=bndT Q k (p+1) n) V;have ag:=qa8 (Q:=Q) (k+1) (a:=bndT Q k (p+1) n) (b:=n) W;rw[chT];unfold laT at U;rw[qb2]at U
 by_cases e:s+1=leT Q (k+1) n
 ·omega
 ·rw[Aa e]at U;have hg:(stT Q k n).getD (s+1) false=true:=by
   grind
  obtain⟨H,Z,aa,ad⟩:=qj5 Q (k+1) (e:=s+1) (n:=n) Oo;have h5:=q6s Q k Z aa;rw[ad,hg]at h5;have ae:i+1<=H:=by
   refine Di.1 λg=>?_;have:=qa8 (Q:=Q) (k+1) (a:=H) (b:=i) Oo;omega
  have h6:=qsn (Q:=Q) k ae Oo;have h7:=qar (Q:=Q) h5.symm;have h8:¬H<bndT Q k (p+1) n:=λg=>by grind [qcc]
  have h9:∀j,j<H->j<bndT Q k (p+1) n:=λj hj=>(qcc (Q:=Q) k (p+1) (n:=n) (i:=j) Oo).2 (by
   have:=qa8 (Q:=Q) k (a:=j+1) (b:=H) hj;omega)
  have ah:bndT Q k (p+1) n=H:=by
   have:=h9 (H-1) Oo;omega
  grind
theorem q8r(k n:Nat):chT Q n k 0=0:=by rw[chT,qrv];rfl
theorem qkr(k n:Nat){p q:Nat}(h:p<=q):chT Q n k p<=chT Q n k q:=qa8 (k+1) (qhx k h n)
theorem q2k(k n p:Nat):chT Q n k p<=leT Q (k+1) n:=qa8 (k+1) (qd9 k p n)
theorem qaiv{n e:Nat}(V:e<leT Q (k+1) n):∃i,i<n/\frU Q i (k+1)=true/\leT Q (k+1) i=e/\leT Q k (i+1)=cnt (qbu (stT Q k n)) e+1:=by
 obtain⟨i,hi,H,U⟩:=qj5 Q (k+1) V;refine⟨i,hi,H,U,?_⟩;have W:=qar (Q:=Q) H;rw[U]at W;have Z:=qm7 Q k hi
 grind [qft]
theorem qak0{n e p:Nat}(H:e<leT Q (k+1) n):cnt (qbu (stT Q k n)) e=p↔chT Q n k p<=e/\e<chT Q n k (p+1):=by
 obtain⟨i,hi,U,Z,h1⟩:=qaiv H;have h2:=qar (Q:=Q) U;have hd:∀p,(e<chT Q n k p↔cnt (qbu (stT Q k n)) e<p):=λp=>by
  have V:=qcc (Q:=Q) k p hi;rw[chT]
  constructor
  ·intro g;have:i<bndT Q k p n:=by
    refine Nat.not_le.1 λW=>?_;have:=qa8 (Q:=Q) (k+1) (a:=bndT Q k p n) (b:=i) W;omega
   omega
  ·intro g;have:=V.2 Oo;have:=qa8 (Q:=Q) (k+1) (a:=i+1) (b:=bndT Q k p n) this;omega
 grind
theorem TOk.sib{n e p:Nat}(h:TOk Q n)(H:k+1<4)(V:chT Q n k p<=e)(h2:e+1<chT Q n k (p+1)):(nuT Q (k+1) n).getD e 0<(nuT Q (k+1) n).getD (e+1) 0:=by
 have W:=q2k (Q:=Q) k n (p+1);have Z:=(qak0 (Q:=Q) (k:=k) (n:=n) (e:=e) (p:=p) Oo).2 ⟨V,by omega⟩;refine h.order (k:=k+1) (e:=e+1) H Oo Oo (.inr λU=>?_);rw[Bm,h.bit H Oo]at U;have:=qaco (Q:=Q) (k:=k) (n:=n) (s:=e) (p:=p) Oo U Z;omega
theorem TOk.top{n e:Nat}(h:TOk Q n)(H:e+1<leT Q 0 n):(nuT Q 0 n).getD e 0<(nuT Q 0 n).getD (e+1) 0:=
 h.order (k:=0) (e:=e+1) Od Oo H (.inl rfl)
end
theorem qacq{d H:LB}:∀{n:Nat},(∀t,t<n->bitN d t=bitN H t)->cnt d n=cnt H n
 | 0,_=>rfl
 | n+1,h=>by rw[cnt,cnt,qacq λt U=>h t Oo,h n Oo]
theorem qahk{d:LB}{s:Nat}(H:cnt d s<=k)(U:k<cnt d (s+1)):bitN d s=1/\cnt d s=k:=by
 grind [qc8,cnt]
section
variable {Q:Nat->Nat->Nat} {n:Nat} (h:TOk Q n)
include h
theorem TOk.cntD{s:Nat}(H:k+1<4)(U:s<=leT Q (k+1) n):Go.Proofs.YtccmcfpmknpccaaGreatDoor.cnt ((qe (qu Q n) (k+1)).drop 8) s=Go.Proofs.YtccmcfpmknpccaaGreatDoor.cnt (qbu (stT Q k n)) s:=
 qacq λt V=>by rw[h.bit H Oo,qfr (by rw[qb2];omega)]
theorem TOk.child{p s:Nat}(H:k+1<4)(U:s<leT Q (k+1) n)(Z:Go.Proofs.YtccmcfpmknpccaaGreatDoor.cnt ((qe (qu Q n) (k+1)).drop 8) s<=p)(h2:p<Go.Proofs.YtccmcfpmknpccaaGreatDoor.cnt ((qe (qu Q n) (k+1)).drop 8) (s+1)):s+1=chT Q n k (p+1):=by
 obtain⟨V,W⟩:=qahk Z h2;rw[h.bit H U]at V;rw[h.cntD H Oo]at W;exact qaco U V W
theorem TOk.ones(H:k+1<4):Go.Proofs.YtccmcfpmknpccaaGreatDoor.cnt ((qe (qu Q n) (k+1)).drop 8) (leT Q (k+1) n)=leT Q k n:=by
 rw[h.cntD H znr];exact h.cnt
theorem TOk.sibs{p:Nat}(H:k+1<4):∀{b:Nat},chT Q n k p<=a->a<b->b<chT Q n k (p+1)->(nuT Q (k+1) n).getD a 0<(nuT Q (k+1) n).getD b 0
 | 0,_,U,_=>absurd U (BL _)
 | b+1,V,U,W=>by
  have Z:=h.sib (k:=k) (e:=b) (p:=p) H Oo W
  by_cases e:a=b
  ·simp_all
  ·have:=TOk.sibs H (b:=b) V Oo Oo;omega
theorem TOk.tops:∀{b:Nat},a<b->b<leT Q 0 n->(nuT Q 0 n).getD a 0<(nuT Q 0 n).getD b 0
 | 0,H,_=>absurd H (BL _)
 | b+1,H,U=>by
  have V:=h.top (e:=b) U
  by_cases e:a=b
  ·simp_all
  ·have:=TOk.tops (b:=b) Oo Oo;omega
end
section
variable {Q:Nat->Nat->Nat} {P:Nat->Int} {n:Nat}
def lvM(P:Nat->Int)(Q:Nat->Nat->Nat)(n k a b:Nat):Ef:=maT P Q k (bndT Q k a n) (bndT Q k b n)
theorem ql9(h:b<=a):lvM P Q n k a b=[]:=qafx P k (qhx k h n)
theorem qqh(H:a<=b)(U:b<=c):lvM P Q n k a c=lvM P Q n k a b++lvM P Q n k b c:=qafw P k (qhx k H n) (qhx k U n)
theorem qu6{p:Nat}(H:k+1<4):lvM P Q n k p (p+1)=if agB P k ((nuT Q k n).getD p 0)=true then lvM P Q n (k+1) (chT Q n k p) (chT Q n k (p+1))else[]:=by
 grind [lvM,qh7,qn3]
theorem qkw{k a:Nat}(U:k<4):∀{b:Nat},(∀e,a<=e->e<b->agB P k ((nuT Q k n).getD e 0)=false)->lvM P Q n k a b=[]
 | 0,_=>ql9 Oo
 | b+1,h=>by
  by_cases H:a<=b
  ·rw[qqh H (CF b),qkw U λe V W=>h e V Oo,Bn,lvM,qh7 P U,h b H (CK b)];rfl
  ·exact ql9 Oo
theorem qyg{e x:Nat}(U:k<4)(hx:P k=(x:Int))(hr:∀i j,a<=i->i<j->j<b->(nuT Q k n).getD i 0<(nuT Q k n).getD j 0)(h1:a<=e)(h2:e<=b)(V:∀i,a<=i->i<e->(nuT Q k n).getD i 0<x)(aa:e<b->x<=(nuT Q k n).getD e 0):
  lvM P Q n k a b=if e<b/\(nuT Q k n).getD e 0=x then lvM P Q n k e (e+1)else[]:=by
 have W:∀i,(nuT Q k n).getD i 0≠x->agB P k ((nuT Q k n).getD i 0)=false:=(by grind [agB])
 split
 ·rename_i h
  rw[qqh (b:=e) h1 h2,qkw U λi Z H=>W i (by have:=V i Z H;omega),Bn,qqh (b:=e+1) (CF e) h.1,qkw (a:=e+1) U λi Z H=>W i (by have:=hr e i h1 Oo H;omega),B4]
 ·rename_i h
  refine qkw U λi Z H=>W i λhi=>?_
  rcases Bj i e with g|g
  ·grind
  ·have h3:x<=(nuT Q k n).getD e 0:=(by omega)
   rcases Dj g with g|g
   all_goals grind
theorem TOk.bnd3(h:TOk Q n){p:Nat}(H:p<=n):bndT Q 3 p n=p:=by
 have U:=qd9 (Q:=Q) 3 p n;refine Nat.le_antisymm ?_ ?_
 ·refine Di.1 λg=>?_;have:=(qcc (Q:=Q) 3 p (n:=n) (i:=p) Oo).1 g;rw[h.all Oo]at this;omega
 ·refine Di.1 λg=>?_;have:=(qcc (Q:=Q) 3 p (n:=n) (i:=bndT Q 3 p n) Oo).2 (by rw[h.all Oo];exact g);omega
theorem TOk.leaf(h:TOk Q n){e:Nat}(H:e<n):lvM P Q n 3 e (e+1)=if agB P 3 ((nuT Q 3 n).getD e 0)=true then[e]else[]:=by
 rw[lvM,qh7 P Od,h.bnd3 Oo,h.bnd3 Oo]
 split
 ·rw[maT,Ck,CM Js,AN Js,Bn];rfl
 ·rfl
theorem TOk.lvM_all(_:TOk Q n):lvM P Q n 0 0 (leT Q 0 n)=maT P Q 0 0 n:=by
 grind [lvM,qrv,qpd]
end
def bsr(p:Nat->Bool):Nat->Nat->Nat->Nat
 | 0,a,_=>a
 | f+1,a,b=>if a<b then(if p ((a+b)/2)=true then bsr p f a ((a+b)/2)else bsr p f ((a+b)/2+1) b)else a
theorem qn4{p:Nat->Bool}:∀{f a b:Nat},a<=b->a<=bsr p f a b/\bsr p f a b<=b
 | 0,a,b,h=>⟨Ai _,h⟩
 | f+1,a,b,h=>by
  rw[bsr]
  split
  ·split
   ·have:=qn4 (p:=p) (f:=f) (a:=a) (b:=(a+b)/2) Oo;omega
   ·have:=qn4 (p:=p) (f:=f) (a:=(a+b)/2+1) (b:=b) Oo;omega
  ·omega
theorem qkn{p:Nat->Bool}{n:Nat}(V:∀i j,i<=j->j<n->p i=true->p j=true):∀{f a b:Nat},a<=b->b<=n->b-a<=f->(∀i,i<a->p i=false)->(∀i,b<=i->i<n->p i=true)->
  (∀i,i<bsr p f a b->p i=false)/\(∀i,bsr p f a b<=i->i<n->p i=true)
 | 0,a,b,h,_,W,H,U=>by
  obtain rfl:a=b:=by omega
  exact⟨H,U⟩
 | f+1,a,b,h,hn,W,H,U=>by
  rw[bsr]
  split
  ·rename_i Z
   split
   ·rename_i hm
    exact qkn V Oo Oo Oo H (by grind)
   ·rename_i hm
    refine qkn V Oo hn Oo (λi hi=>?_) U
    grind
  grind
abbrev WS:=(Nat->Nat)×(Nat->Nat)
abbrev WR:=List (Nat×(Nat->Nat))×WS
def updN(f:Nat->Nat)(k v:Nat):Nat->Nat:=λj=>if j=k then v else f j
def goL(f:Nat->WS->WR):Nat->Nat->WS->WR
 | 0,_,s=>([],s)
 | m+1,i,s=>((f i s).1++(goL f m (i+1) (f i s).2).1,(goL f m (i+1) (f i s).2).2)
structure LvD where
 N:Nat->Nat
 nu:Nat->Nat->Nat
 ch:Nat->Nat->Nat×Nat
def LvD.sr(T:LvD)(k lo hi:Nat)(x:Int):Nat:=lo+bsr (λi=>decide (x<=(T.nu k (lo+i):Int))) (hi-lo) 0 (hi-lo)
def LvD.win(T:LvD)(P:Nat->Int)(k lo hi:Nat):Nat×Nat:=
 if P k<0 then(lo,hi)else if T.sr k lo hi (P k)<hi/\(T.nu k (T.sr k lo hi (P k)):Int)=P k then(T.sr k lo hi (P k),T.sr k lo hi (P k)+1)else(T.sr k lo hi (P k),T.sr k lo hi (P k))
def lvS(T:LvD)(P:Nat->Int)(f:Nat->WS->WR)(k lo hi:Nat)(s:WS):WR:=
 if min hi (T.N k)<=max lo (s.1 k)then([],s)else
 goL (λi s=>f i (s.1,updN s.2 k (T.nu k i))) ((T.win P k (max lo (s.1 k)) (min hi (T.N k))).2-(T.win P k (max lo (s.1 k)) (min hi (T.N k))).1) (T.win P k (max lo (s.1 k)) (min hi (T.N k))).1 (updN s.1 k (min hi (T.N k)),s.2)
def lvG(T:LvD)(P:Nat->Int):Nat->Nat->Nat->Nat->WS->WR
 | 0,k,lo,hi,s=>lvS T P (λi s=>([(i,s.2)],s)) k lo hi s
 | d+1,k,lo,hi,s=>lvS T P (λi s=>lvG T P d (k+1) (T.ch k i).1 (T.ch k i).2 s) k lo hi s
theorem LvD.sr_le(T:LvD)(k:Nat)(x:Int)(h:lo<=hi):lo<=T.sr k lo hi x/\T.sr k lo hi x<=hi:=by
 grind [qn4,LvD.sr]
theorem LvD.win_le(T:LvD)(P:Nat->Int)(k:Nat)(h:lo<=hi):lo<=(T.win P k lo hi).1/\(T.win P k lo hi).1<=(T.win P k lo hi).2/\(T.win P k lo hi).2<=hi:=by
 have:=T.sr_le k (P k) h
 grind [LvD.win]
theorem LvD.sr_spec(T:LvD)(k:Nat)(x:Int)(h:lo<=hi)(U:∀i j,lo<=i->i<j->j<hi->T.nu k i<T.nu k j):
  (∀i,lo<=i->i<T.sr k lo hi x->(T.nu k i:Int)<x)/\(T.sr k lo hi x<hi->x<=(T.nu k (T.sr k lo hi x):Int)):=by
 have V:=qkn (p:=λi=>decide (x<=(T.nu k (lo+i):Int))) (n:=hi-lo) (λi j W hj H=>by
  have H:=Cs H;refine AE ?_
  by_cases e:i=j
  ·simp_all
  ·have:=U (lo+i) (lo+j) Oo Oo Oo;omega) (f:=hi-lo) (a:=0) (b:=hi-lo) Oo Oo Oo Oo Oo
 unfold LvD.sr;refine⟨λi Z h2=>?_,λZ=>?_⟩
 ·have:=of_decide_eq_false (V.1 (i-lo) Oo)
  simp_all
 grind
section
variable {Q:Nat->Nat->Nat} {n:Nat}
def dT(Q:Nat->Nat->Nat)(n k a:Nat):Nat->Nat
 | 0=>a
 | j+1=>chT Q n (k+j) (dT Q n k a j)
theorem qul(k:Nat){a b:Nat}(h:a<=b):∀j,dT Q n k a j<=dT Q n k b j
 | 0=>h
 | j+1=>qkr _ _ (qul k h j)
theorem qpl(k a:Nat):∀j,dT Q n (k+1) (chT Q n k a) j=dT Q n k a (j+1)
 | 0=>rfl
 | j+1=>by rw[dT,qpl k a j,dT,show k+1+j=k+(j+1)by omega,dT,dT]
theorem q3q{P:Nat->Int}{k lo hi:Nat}{f:Nat->WS->WR}{Inv:Nat->WS->Prop}(h:∀i s,lo<=i->i<hi->Inv i s->(f i s).1.map (·.1)=lvM P Q n k i (i+1)/\Inv (i+1) (f i s).2):
  ∀(m i:Nat) (s:WS),lo<=i->i+m<=hi->Inv i s->(goL f m i s).1.map (·.1)=lvM P Q n k i (i+m)/\Inv (i+m) (goL f m i s).2
 | 0,i,s,_,_,H=>⟨(ql9 znr).symm,H⟩
 | m+1,i,s,U,W,H=>by
  obtain⟨Z,V⟩:=h i s U Oo H;obtain⟨g3,g4⟩:=q3q h m (i+1) _ Oo Oo V
  grind [goL,qqh]
structure CanD(T:LvD)(Q:Nat->Nat->Nat)(n:Nat):Prop where
 N:∀k,k<4->T.N k=leT Q k n
 nu:∀k e,k<4->e<leT Q k n->T.nu k e=(nuT Q k n).getD e 0
 ch:∀k i,k+1<4->i<leT Q k n->T.ch k i=(chT Q n k i,chT Q n k (i+1))
theorem q45(_:TOk Q n){T:LvD}(hT:CanD T Q n){P:Nat->Int}{s:WS}{f:Nat->WS->WR}(W:k<4)(H:a<=b)(hb:b<=leT Q k n)(hr:∀i j,a<=i->i<j->j<b->(nuT Q k n).getD i 0<(nuT Q k n).getD j 0)(hp:∀j,k+j<4->s.1 (k+j)<=dT Q n k a j)(hf:∀i s,a<=i->i<b->agB P k ((nuT Q k n).getD i 0)=true->(∀j,k+(j+1)<4->s.1 (k+(j+1))<=dT Q n k i (j+1))->(f i s).1.map (·.1)=lvM P Q n k i (i+1)/\(f i s).2.1 k=s.1 k/\∀j,k+(j+1)<4->(f i s).2.1 (k+(j+1))<=dT Q n k (i+1) (j+1)):
  (lvS T P f k a b s).1.map (·.1)=lvM P Q n k a b/\∀j,k+j<4->(lvS T P f k a b s).2.1 (k+j)<=dT Q n k b j:=by
 have aa:s.1 k<=a:=hp 0 W;rw[lvS,hT.N k W,Nat.max_eq_left aa,BG hb]
 split
 ·grind [ql9]
 obtain⟨w1,w2,w3⟩:=T.win_le P k H;have af:∀e,e<b->T.nu k e=(nuT Q k n).getD e 0:=λe he=>hT.nu k e W Oo
 have U:lvM P Q n k a b=lvM P Q n k (T.win P k a b).1 (T.win P k a b).2/\∀i,(T.win P k a b).1<=i->i<(T.win P k a b).2->agB P k ((nuT Q k n).getD i 0)=true:=by
  by_cases ae:P k<0
  ·grind [LvD.win,agB]
  ·obtain⟨s1,s2⟩:=T.sr_le k (P k) H;obtain⟨s3,s4⟩:=T.sr_spec k (P k) H (by grind);obtain⟨x,hx⟩:∃x:Nat,P k=(x:Int):=⟨(P k).toNat,by omega⟩
   have ag:=qyg (P:=P) (n:=n) W hx hr s1 s2 (by grind) (by grind)
   grind [LvD.win,agB,ql9]
 obtain⟨V,ad⟩:=U;obtain⟨u,eu⟩:∃u,u=T.win P k a b:=⟨_,rfl⟩
 rw[<-eu]at w1 w2 w3 V ad|-;have Z:=q3q (Q:=Q) (n:=n) (P:=P) (k:=k) (lo:=u.1) (hi:=u.2) (f:=λi s=>f i (s.1,updN s.2 k (T.nu k i))) (Inv:=λi s=>s.1 k=b/\∀j,k+(j+1)<4->s.1 (k+(j+1))<=dT Q n k i (j+1))
  (by grind) (u.2-u.1) u.1 (updN s.1 k b,s.2) Oo Oo ⟨by grind [updN],λj hj=>by
    show updN s.1 k b (k+(j+1))<=_;rw[updN,Aa Oo];exact AI (by grind) (qul k w1 (j+1))⟩
 rw[show u.1+(u.2-u.1)=u.2 by omega]at Z;refine⟨by rw[Z.1,V],λj hj=>?_⟩;cases j with
 | zero=>rw[BB,Z.2.1];exact Ai b
 | succ j=>exact AI (Z.2.2 j hj) (qul k w3 (j+1))
theorem qyh{T:LvD}{P:Nat->Int}{s:WS}{f:Nat->WS->WR}(U:m≠k)(V:∀i s,(f i s).2.1 m=s.1 m):(lvS T P f k a b s).2.1 m=s.1 m:=by
 have H:∀c i (s:WS),(goL (λi s=>f i (s.1,updN s.2 k (T.nu k i))) c i s).2.1 m=s.1 m:=by
  intro c
  induction c with
  | zero=>intro i s;rfl
  | succ c W=>grind [goL]
 grind [lvS,updN]
theorem qyf{T:LvD}{P:Nat->Int}{m:Nat}:∀{d k a b:Nat} {s:WS},m<k->(lvG T P d k a b s).2.1 m=s.1 m
 | 0,k,a,b,s,h=>qyh Oo λ_ _=>rfl
 | d+1,k,a,b,s,h=>qyh Oo λi s=>qyf (d:=d) Oo
theorem q43(h:TOk Q n){T:LvD}(V:CanD T Q n){P:Nat->Int}:∀{d k a b:Nat} {s:WS},k+d=3->a<=b->b<=leT Q k n->(∀i j,a<=i->i<j->j<b->(nuT Q k n).getD i 0<(nuT Q k n).getD j 0)->
  (∀j,k+j<4->s.1 (k+j)<=dT Q n k a j)->(lvG T P d k a b s).1.map (·.1)=lvM P Q n k a b/\∀j,k+j<4->(lvG T P d k a b s).2.1 (k+j)<=dT Q n k b j
 | 0,k,a,b,s,W,H,Z,hr,hp=>by
  obtain rfl:k=3:=by omega
  have hn:leT Q 3 n=n:=h.all Oo;refine q45 h V Oo H Z hr hp λi s h1 h2 U _=>⟨?_,rfl,Oo⟩
  rw[h.leaf Oo,Ad U];rfl
 | d+1,k,a,b,s,W,H,Z,hr,hp=>by
  refine q45 h V Oo H Z hr hp λi s h1 h2 U hj=>?_;have aa:=V.ch k i Oo Oo;have ih:=q43 h V (P:=P) (d:=d) (k:=k+1) (a:=chT Q n k i) (b:=chT Q n k (i+1)) (s:=s) Oo (qkr k n (CF i)) (q2k k n _) (λx y g1 g2 g3=>h.sibs Oo g1 g2 g3)
   (λj ad=>by rw[qpl,show k+1+j=k+(j+1)by omega];exact hj j Oo)
  rw[aa];refine⟨by rw[ih.1,qu6 Oo,Ad U],qyf Oo,λj ad=>?_⟩;have:=ih.2 j Oo;rw[qpl,show k+1+j=k+(j+1)by omega]at this;exact this
theorem qafu(h:TOk Q n){T:LvD}(H:CanD T Q n){P:Nat->Int}{q:Nat->Nat}:(lvG T P 3 0 0 (leT Q 0 n) (λ_=>0,q)).1.map (·.1)=maT P Q 0 0 n:=by
 rw[<-h.lvM_all];exact(q43 h H (d:=3) (k:=0) (a:=0) (b:=leT Q 0 n) (s:=(λ_=>0,q)) rfl Oo Oo (λi j _ U V=>h.tops U V) (λj W=>Ag _)).1
end
def seB(B:LB)(x:Nat):Nat:=if x<vM B then bsr (λi=>decide (x<qgx B (i+1))) (vN B-1) 0 (vN B-1)+1 else 0
def chB(l:LB)(k i:Nat):Nat×Nat:=
 if tVec l (k+1)=true then((if 0<i then seB (qe l (k+1)) (i-1)else 0),max (if 0<i then seB (qe l (k+1)) (i-1)else 0) (seB (qe l (k+1)) i))else(0,0)
def treD(l:LB):LvD:=⟨vNum l,λk e=>numP (qg l k) (tw l k) e,chB l⟩
theorem q6f{B:LB}(x:Nat)(h:vM B<=vN B):seB B x<=vN B:=by
 grind [seB,qn4]
theorem qxl(h:∀k,vNum l k<=1048576\/4<=k)(H:k+1<4)(U:tVec l (k+1)=true->vM (qe l (k+1))<=vN (qe l (k+1))):(chB l k i).1<=1048576/\(chB l k i).2<=1048576:=by
 grind [chB,tVec,q6f]
section
variable {Q:Nat->Nat->Nat} {n:Nat} (h:TOk Q n)
include h
theorem TOk.seB{p:Nat}(H:k+1<4)(W:p<leT Q k n):Go.Proofs.YtccmcfpmknpccaaGreatDoor.seB (qe (qu Q n) (k+1)) p=chT Q n k (p+1):=by
 obtain⟨h1,Z,h3,h4,h5⟩:=h.vec H;have hl:=qbq h.toE (k+1) Oo Oo;have U:=h.ones H;rw[Go.Proofs.YtccmcfpmknpccaaGreatDoor.seB,h3,Ad W,Z];have V:0<leT Q (k+1) n:=by
  refine Nat.pos_of_ne_zero λe=>?_;rw[e]at U;have:leT Q k n=0:=U.symm;omega
 obtain⟨N,eN⟩:∃N,N=leT Q (k+1) n-1:=⟨_,rfl⟩
 have aa:∀i,i<=N+1->qgx (qe (qu Q n) (k+1)) i=Go.Proofs.YtccmcfpmknpccaaGreatDoor.cnt ((qe (qu Q n) (k+1)).drop 8) i:=λi hi=>hl.rank i (by rw[h.vNum H];omega)
 rw[<-eN];have hb:=qn4 (p:=λi=>decide (p<qgx (qe (qu Q n) (k+1)) (i+1))) (f:=N) (a:=0) (b:=N) (Ag _);have hs:=qkn (p:=λi=>decide (p<qgx (qe (qu Q n) (k+1)) (i+1))) (n:=N) (by grind [Nat.lt_of_lt_of_le,qks]) (f:=N) (a:=0) (b:=N) Oo Oo Oo Oo Oo;obtain⟨s,es⟩:∃s,s=bsr (λi=>decide (p<qgx (qe (qu Q n) (k+1)) (i+1))) N 0 N:=⟨_,rfl⟩
 rw[<-es]at hb hs|-;refine h.child H Oo ?_ ?_
 ·cases s with
  | zero=>exact Ag _
  | succ s=>
   grind
 grind
theorem TOk.canD:CanD (treD (qu Q n)) Q n:=by
 refine⟨λk H=>h.vNum H,λk e H U=>?_,λk i H hi=>?_⟩
 ·show numP _ _ _=_;rw[qky _ _ _ (by have:=h.wi H;rw[h.tw H];omega)];exact h.tX H U
 ·have V:=qbq h.toE (k+1) Oo Oo;have W:(if 0<i then Go.Proofs.YtccmcfpmknpccaaGreatDoor.seB (qe (qu Q n) (k+1)) (i-1)else 0)=chT Q n k i:=by
   split
   ·rw[h.seB H Oo,show i-1+1=i by omega]
   grind [q8r]
  show chB _ k i=_;rw[chB,Ad V.tvec,W,h.seB H hi,Nat.max_eq_right (qkr k n (CF i))]
theorem TOk.mtch{P:Nat->Int}{q:Nat->Nat}:(lvG (treD (qu Q n)) P 3 0 0 (Go.Proofs.YtccmcfpmknpccaaGreatDoor.vNum (qu Q n) 0) (λ_=>0,q)).1.map (·.1)=maT P Q 0 0 n:=by
 rw[h.vNum Od];exact qafu h h.canD
end
set_option maxHeartbeats 8000000
set_option maxRecDepth 100000
theorem qxe(p:Nat->Bool)(f a:Nat):bsr p f a a=a:=by
 cases f<;>grind [bsr]
theorem qvu(l:LB)(A:oA)(c b k:Nat)(w:DU)(hS:SlAt encB 1 w A l)(hc:l.length<=c)(hv:vOk l=true)(hb:w.heap[b]?=some (vecO 381 (.slice A l.length c) (vN l) (vM l)))(h1:1<=vN l)(hn:vN l<=67108864):
  Gv Eg 280 [pp b,ii k,.func (.func 224) #[pp b] #[]] w λr Z=>r=ii (bsr (λi=>decide (k<qgx l (i+1))) (vN l-1) 0 (vN l-1):Nat)/\Ext w Z:=by
 obtain⟨p,ep⟩:∃p:Nat->Bool,p=λi=>decide (k<qgx l (i+1)):=⟨_,rfl⟩
 rw[<-ep];refine ze Tryz.func280 Tryz.ntmps280 ?_;refine DrawV.free Jk Jk (zw ?_);(iterate 3 (refine zd ?_));refine zf ?_ (by intro wd hd;(conv=>whnf);refine LoadV.own (Ext.get (Ext.trans (Ext.drew xr) hd) hb) rfl ?_;(conv=>whnf);exact xq);(iterate 3 (refine zd ?_));intro w1 V;have V:=(Ext.refl w).drew.trans V;(conv=>whnf);refine qk (λs:Nat×Nat=>[(1,ii k),(2,.func (.func 224) #[pp b] #[]),(7,ii s.1),(8,ii s.2)])
  (λs Z=>s.1<=s.2/\s.2<=vN l-1/\(∃f,s.2-s.1<=f/\bsr p f s.1 s.2=bsr p (vN l-1) 0 (vN l-1))/\Ext w Z) (λs=>s.2-s.1) (0,vN l-1) ⟨rfl,rfl,rfl,Ae (Value.int .i64) (by show((vN l:Nat):Int)-1=((vN l-1:Nat):Int);omega),trivial⟩ (by grind) ?_
 rintro⟨x,y⟩ w2 ad ⟨g1,g2,⟨f,hf,U⟩,W⟩;dsimp only at g1 g2 hf U|-;(conv=>whnf);refine zC (λ_=>zu ?_) (λ_=>zu ?_)
 ·obtain⟨h,eh⟩:∃h,h=(x+y)/2:=⟨_,rfl⟩
  obtain⟨f',rfl⟩:∃f',f=f'+1:=⟨f-1,by omega⟩
  rw[bsr,Ad Oo,<-eh]at U;rw[show((x:Int)+(y:Int))/2=((h:Nat):Int)by omega,show((h:Nat):Int)+1=((h+1:Nat):Int)by omega];refine zcv (qyu l A c b (h+1) w2 (hS.ext W) hc hv (W.get hb) Oo) ?_;rintro r w3 ⟨rfl,aa⟩;have W:=W.trans aa;cases H:p h
  ·rw[Aa (by rw[H];decide)]at U;rw[ep]at H;have H:=of_decide_eq_false H;refine zu ?_;refine⟨(h+1,y),fq,(by grind),by omega⟩
  ·rw[Ad H]at U;rw[ep]at H;have H:=Cs H;refine zu ?_;refine⟨(x,h),fq,(by grind),by omega⟩
 grind [qxe]
theorem qhl(l:LB)(A:oA)(c b k:Nat)(w:DU)(U:SlAt encB 1 w A l)(V:l.length<=c)(W:vOk l=true)(H:w.heap[b]?=some (vecO 381 (.slice A l.length c) (vN l) (vM l)))(hm:vM l<=vN l)(hn:vN l<=67108864):
  Gv Eg 210 [pp b,ii k] w λr Z=>r=ii ((seB l k:Int)-1)/\Ext w Z:=by
 refine ze Tryz.func210 Tryz.ntmps210 ?_;refine zv ?_;refine LoadV.own H rfl (zw ?_);refine zt ?_;refine zC (λ_=>zw ?_) (λ_=>zw ?_)
 ·grind [seB,Ext.refl]
 ·refine zcv (qvu l A c b k w U V W H Oo hn) ?_;rintro r w1 ⟨rfl,aa⟩;conv=>whnf
  grind [seB]
theorem qt0(g:FuncId)(Z c2 c3:DZ)(n:Nat)(p:Nat->Bool)(w:DU)(hn:n<=4194304)(hg:∀i H,i<n->Ext w H->Gv Eg g [ii i,Z,c2,c3] H λr aa=>r=.bool (p i)/\Ext H aa):
  Gv Eg 208 [ii n,.func (.func g) #[] #[Z,c2,c3]] w λr H=>r=ii (bsr p n 0 n:Nat)/\Ext w H:=by
 refine ze Tryz.func208 Tryz.ntmps208 ?_;refine qk (λs:Nat×Nat=>[(1,.func (.func g) #[] #[Z,c2,c3]),(5,ii s.1),(6,ii s.2)])
  (λs H=>s.1<=s.2/\s.2<=n/\(∃f,s.2-s.1<=f/\bsr p f s.1 s.2=bsr p n 0 n)/\Ext w H) (λs=>s.2-s.1) (0,n) fq (by grind [Ext.refl]) ?_
 rintro⟨a,b⟩ w1 ae ⟨h1,h2,⟨f,hf,W⟩,he⟩;dsimp only at h1 h2 hf W|-;(conv=>whnf);refine zC (λ_=>zu ?_) (λ_=>zu ?_)
 ·obtain⟨h,eh⟩:∃h,h=(a+b)/2:=⟨_,rfl⟩
  obtain⟨f',rfl⟩:∃f',f=f'+1:=⟨f-1,by omega⟩
  rw[bsr,Ad Oo,<-eh]at W;rw[<-Int.natCast_add];refine V.Wit.shrN 1 rfl Od ?_;rw[Nat.pow_one,<-eh];refine zu ?_;refine zcv (hg h w1 Oo he) ?_;rintro r w2 ⟨rfl,ad⟩;have he:=he.trans ad;cases U:p h
  ·rw[Aa (by rw[U];decide)]at W;refine zu ?_;refine⟨(h+1,b),fq,(by grind),by omega⟩
  ·rw[Ad U]at W;refine zu ?_;refine⟨(a,h),fq,(by grind),by omega⟩
 grind [qxe]
theorem qt5(b off i lo H W:Nat)(x:Int)(Z b5 b7:Nat)(P:oA)(p:LB)(w:DU)(h1:w.cell? ⟨b,off+1,none⟩=some (ii H))(h5:w.cell? ⟨b,off+5,none⟩=some (.slice P p.length W))(hP:SlAt encB 1 w P p)(hw:H<=23)(hi:lo+i<=4194304)(g4:w.cell? ⟨Z,0,none⟩=some (.pointer (some ⟨b,off,none⟩)))(g5:w.cell? ⟨b5,0,none⟩=some (ii lo))(g7:w.cell? ⟨b7,0,none⟩=some (ii x)):
  Gv Eg 209 [ii i,pp Z,pp b5,pp b7] w λr w'=>r=.bool (decide (x<=(numP p H (lo+i):Int)))/\Ext w w':=by
 refine ze Tryz.func209 Tryz.ntmps209 ?_;refine DrawV.free Jk Jk (zw ?_);refine zf ?_ (by intro H hd;(conv=>whnf);refine LoadV.of (Ext.cell (Ext.trans (Ext.drew xr) hd) g4) ?_;(conv=>whnf);exact xq);refine zf ?_ (by intro H hd;(conv=>whnf);refine LoadV.of (Ext.cell (Ext.trans (Ext.drew xr) hd) g5) ?_;(conv=>whnf);exact xq);refine zd ?_;refine zd ?_;apply zsd (ii (numP p H (lo+i)))
 ·intro U hd;(conv=>whnf);rw[show((lo:Int)+(i:Int))=((lo+i:Nat):Int)by omega];refine zcv (qci b off (lo+i) H W P p U (((Ext.refl w).drew.trans hd).cell h1) (((Ext.refl w).drew.trans hd).cell h5) (hP.ext ((Ext.refl w).drew.trans hd)) hw hi) ?_
  simp_all
 (conv=>whnf);refine zf ?_ (by intro H hd;(conv=>whnf);refine LoadV.of (Ext.cell (Ext.trans (Ext.drew xr) hd) g7) ?_;(conv=>whnf);exact xq);refine zd ?_;refine zd ?_;intro w2 V;(conv=>whnf);exact⟨rfl,(Ext.refl w).drew.trans V⟩
theorem qho(b off lo hi U cp:Nat)(x:Int)(P:oA)(p:LB)(w:DU)(h1:w.cell? ⟨b,off+1,none⟩=some (ii U))(h5:w.cell? ⟨b,off+5,none⟩=some (.slice P p.length cp))(hP:SlAt encB 1 w P p)(hw:U<=23)(af:lo<=hi)(ag:hi<=4194304):
  Gv Eg 128 [.pointer (some ⟨b,off,none⟩),ii lo,ii hi,ii x] w λr w'=>r=ii (lo+bsr (λi=>decide (x<=(numP p U (lo+i):Int))) (hi-lo) 0 (hi-lo):Nat)/\Ext w w':=by
 obtain⟨q,eq⟩:∃q:Nat->Bool,q=λi=>decide (x<=(numP p U (lo+i):Int)):=⟨_,rfl⟩
 rw[<-eq];have hq:=qn4 (p:=q) (f:=hi-lo) (a:=0) (b:=hi-lo) (Ag _);refine ze Tryz.func128 Tryz.ntmps128 ?_;refine znm (Mem.nil w) λb4 w1 H=>zw ?_;refine znm H λb5 w2 H=>zw ?_;refine znm H λb7 Z H=>zw ?_;have c7:Z.cell? ⟨b7,0,none⟩=some (ii x):=by rw[qa (H.get mh)];rfl
 have c5:Z.cell? ⟨b5,0,none⟩=some (ii lo):=by rw[qa (H.get (zmc mh))];rfl
 have c4:Z.cell? ⟨b4,0,none⟩=some (.pointer (some ⟨b,off,none⟩)):=by rw[qa (H.get (zmc (zmc mh)))];rfl
 refine DrawV.free Jk Jk (zw ?_);refine zf ?_ (by intro U hd;(conv=>whnf);refine LoadV.of (Ext.cell (Ext.trans (Ext.drew xr) hd) c5) ?_;(conv=>whnf);exact xq);refine zd ?_;refine zf ?_ (by intro U hd;(conv=>whnf);refine LoadV.of (Ext.cell (Ext.trans (Ext.drew xr) hd) c5) ?_;(conv=>whnf);exact xq);refine zd ?_;refine zd ?_;apply zsd (ii (bsr q (hi-lo) 0 (hi-lo):Nat))
 ·intro aa hd;have hx:=(Ext.refl Z).drew.trans hd;have V:=H.ext.trans hx;(conv=>whnf);rw[show((hi:Int)-(lo:Int))=((hi-lo:Nat):Int)by omega];have ad:=qt0 209 (pp b4) (pp b5) (pp b7) (hi-lo) q aa Oo (λi w' ah W=>by
   rw[eq];exact qt5 b off i lo U cp x b4 b5 b7 P p w' ((V.trans W).cell h1) ((V.trans W).cell h5) (hP.ext (V.trans W)) hw Oo ((hx.trans W).cell c4) ((hx.trans W).cell c5) ((hx.trans W).cell c7))
  refine zcv (ad) ?_
  simp_all
 (conv=>whnf);refine zd ?_;refine zd ?_;intro w4 ae;(conv=>whnf);exact⟨Js,H.ext.trans ((Ext.refl Z).drew.trans ae)⟩
theorem qdd(b:Nat)(l:LB)(k i:Nat)(w:DU)(h:TreeAt w b l)(hk:k+1<4)(hi:i<=1048576)(H:tVec l (k+1)=true->vM (qe l (k+1))<=vN (qe l (k+1))):
  Gv Eg 131 [pp b,ii k,ii i] w λr w'=>r=.tuple #[ii (chB l k i).1,ii (chB l k i).2]/\Ext w w':=by
 obtain⟨P,cp,S,cs,V,hc,hP,hS,hl,hv⟩:=(h.lv (k+1) Oo).h;have hn:=h.n (k+1) hk;refine ze Tryz.func131 Tryz.ntmps131 ?_;refine zv ?_;refine IdxV.at_ (k+1) Oo Oo (zw ?_);refine LoadV.cellsE hc 7 (by rw[show tsz Eg 244=8 from by kernel_rfl];show 0+0+(k+1)*8+7=8*(k+1)+7;omega) rfl (zw ?_)
 rcases hv with⟨hx|hx,rfl⟩|⟨_,af,vb,rfl,ad⟩
 ·omega
 ·refine zu ?_
  grind [chB,Ext.refl]
 have aa:=af;simp only[tVec,AQ,decide_eq_true_eq]at aa;obtain⟨⟨U,ae⟩,W⟩:=aa;have H:=H af;obtain⟨F,eF⟩:∃F:Nat,F=if 0<i then seB (qe l (k+1)) (i-1)else 0:=⟨_,rfl⟩
 have ah:chB l k i=(F,max F (seB (qe l (k+1)) i)):=by grind [chB]
 rw[ah];have ai:=q6f (B:=qe l (k+1)) (i-1) H;have aj:=q6f (B:=qe l (k+1)) i H;have hF:F<=vN (qe l (k+1)):=by grind
 (conv=>whnf);refine zt ?_;refine zC (λ_=>zw ?_) (λ_=>zw ?_)
 ·refine LoadV.cellsE hc 7 (by rw[show tsz Eg 244=8 from by kernel_rfl];show 0+0+(k+1)*8+7=8*(k+1)+7;omega) rfl (zu ?_);rw[show((i:Int)-1)=((i-1:Nat):Int)by omega];refine zcv (qhl (qe l (k+1)) S cs vb (i-1) w hS hl U (by rw[ae,W];exact ad) H Oo) ?_;rintro r w1 ⟨rfl,Z⟩;refine zu ?_;refine LoadV.cellsE (hc.ext Z) 7 (by rw[show tsz Eg 244=8 from by kernel_rfl];show 0+0+(k+1)*8+7=8*(k+1)+7;omega) rfl (zw ?_);refine zcv (qhl (qe l (k+1)) S cs vb i w1 (hS.ext Z) hl U (by rw[ae,W];exact Z.get ad) H Oo) ?_;rintro r w2 ⟨rfl,ag⟩;refine zu ?_;refine V.Fall.max2 rfl rfl rfl λm hm=>?_;subst hm;(conv=>whnf);refine⟨?_,Z.trans ag⟩
  grind
 ·refine LoadV.cellsE hc 7 (by rw[show tsz Eg 244=8 from by kernel_rfl];show 0+0+(k+1)*8+7=8*(k+1)+7;omega) rfl (zw ?_);refine zcv (qhl (qe l (k+1)) S cs vb i w hS hl U (by rw[ae,W];exact ad) H Oo) ?_;rintro r w2 ⟨rfl,ag⟩;refine zu ?_;refine V.Fall.max2 rfl rfl rfl λm hm=>?_;subst hm;conv=>whnf
  simp_all
open Go.RowKit
namespace V
section
variable {P:DW} {n:Nat} {r:Option Nat}
theorem qag9{row:String}(h:Rows P row args w R):RowsIn (Fr r) 0 P row args w R:=λc cs _=>by
 obtain⟨v,H,U,s⟩:=h c cs;exact⟨v,H,U,(stepsIn_wide.2 s:StepsIn (Machine.fenced P Fence.wide) P _ _)⟩
theorem qo4(U:r=none\/∀c,o.op≠.defer c){a:Act}{K V:Act->Ec}{Q Q2:Exit->Act->Ec}(hQ:∀e a w,Q e a w->e=.normal)(hK:∀a w,K a w->V { a with defers:=a.defers++ds } w)(h:o.wp P a w K Q):o.wpIn (Fr r) 0 P { a with defers:=a.defers++ds } w V Q2:=by
 refine⟨λ_ _=>trivial,?_⟩;have W:({ a with defers:=a.defers++ds }:Act).eval=a.eval:=by rfl
 have hs:o.semAt (Fr r).round a.eval=execOp a.eval o:=by
  rcases U with rfl|U
  ·rfl
  grind [Oper.semAt_eq]
 rw[W,hs];unfold Oper.wp at h;have hp:∀v,({ a with defers:=a.defers++ds }:Act).put o.dst v={ a.put o.dst v with defers:=(a.put o.dst v).defers++ds }:=λv=>by cases o.dst<;>rfl
 generalize(execOp a.eval o).run P w=aa at h;cases aa with
 | ok nx w'=>
  cases nx with
  | value v=>show V _ _;rw[hp];exact hK _ _ h
  | skip=>show V _ _;rw[hp];exact hK _ _ h
  | defer d=>
   have Z:=hK _ _ h;show V _ _;cases hd:o.dst with
   | none=>rw[hd]at Z;exact Z
   | some t=>rw[hd]at Z;exact Z
  | enter f args=>
   refine⟨(by grind [Fr]),qdf.2 (Calls.mono h λe ad W=>?_)⟩;cases e with
   | returned v=>simp_all
   | panicked ch=>grind
   | outgrown=>obtain⟨a',w',hq⟩:=W;grind
  | row row args=>
   refine⟨(by grind [Fr]),qag9 (Rows.mono h λv ad W=>?_)⟩
   simp_all
  | _=>exact h.elim
 | halt x w'=>
  cases x with
  | panic v=>have:=hQ _ _ _ h;cases this
  | _=>exact h.elim
def q5a(ops:List Oper):Bool:=ops.all λo=>match o.op with
 | .defer _=>false
 | _=>true
theorem qyn{ops:List Oper}(h:q5a ops=true)(H:o∈ops):∀c,o.op≠.defer c:=by
 intro c e;have:=CJ.1 h o H
 simp_all
theorem qw4{ops:Array Oper}(W:r=none\/q5a ops.toList=true){ds:Ei}{Q Q2:Exit->Act->Ec}(Z:∀e a w,Q e a w->e=.normal)(hk:∀a w,Q .normal a w->Q2 .normal { a with defers:=a.defers++ds } w):∀(fuel:Nat) (U:Array Bool) (a:Act) (w:DU),wpAny P .any ops Q fuel U a w->
  wpAnyIn (Fr r) 0 P .any ops Q2 fuel U { a with defers:=a.defers++ds } w
 | 0,_,_,_,h=>⟨h.1,hk _ _ h.2⟩
 | fuel+1,U,a,w,h=>by
  refine⟨λhr=>hk _ _ (h.1 hr),λi hi=>?_⟩;have V:=h.2 i hi;unfold wpOp at V;unfold wpOpIn;cases ho:ops[i]? with
  | none=>rw[ho]at V;exact qw4 W Z hk fuel _ _ _ V
  | some o=>
   rw[ho]at V;dsimp only at V|-;have aa:r=none\/∀c,o.op≠.defer c:=W.imp_right λhn=>qyn hn (D9.2 (CV ho))
   split
   ·rename_i hw
    rw[Ad hw]at V
    rcases V with V|⟨_,a',w',hq⟩
    ·exact qo4 aa Z (λa w h=>qw4 W Z hk fuel _ a w h) V
    ·have:=Z _ _ _ hq;cases this
   ·rename_i hw
    rw[Aa hw]at V;refine⟨λ_ _=>trivial,?_⟩;have hp:({ a with defers:=a.defers++ds }:Act).put o.dst undef={ a.put o.dst undef with defers:=(a.put o.dst undef).defers++ds }:=by cases o.dst<;>rfl
    rw[hp];exact qw4 W Z hk fuel _ _ _ V
theorem DrawW.any{Q:QW}(hm:P.follows .mixedOrders=true)(W:r=none\/q5a ops.toList=true)(h:AnyV P n ops (λU Z=>Q .normal U ds Z) ρ w):DrawW P n r id ops Q ρ ds w:=by
 refine⟨λa ha hd=>wpIn_region_any hm ?_⟩;have e:a={ ({ a with defers:=[] }:Act)with defers:=({ a with defers:=[] }:Act).defers++ds }:=by subst hd;rfl
 have h1:=qw4 (r:=r) (ds:=ds) (Q2:=qfk n Q) W (by grind) (λV Z h=>?_) _ _ _ _ (h.h { a with defers:=[] } ha)
 ·rw[<-e]at h1;exact h1
 ·obtain⟨_,U,hs,hq⟩:=h;have aa:V.defers++ds=ds:=by rw[hs.defers];rfl
  refine⟨U,?_,?_⟩
  ·show St n U { V with defers:=[] };have:({ V with defers:=[] }:Act)=V:=by have:=hs.defers;cases V;grind
   grind
  grind
structure BeginA(J:Ed->Ec)(l:Nat)(ob ob':Obj)(w:DU)(ds:Ei)(K:Ec):Prop where
 d:ds=[]
 h:∃Y,J ((l,ob)::Y) w/\∀w2,J ((l,ob')::Y) w2->K w2
theorem q5x{f:Operand}{ps:Array Tmp}{Q:QW}{Φ:Ec}{xs:List Ee}(hf:ev ρ f=.func (.func gf) #[] lb.toArray)(he:qdp P gf=true)(al:SeqC P gf lb xs Φ)(av:ps.toList.all (Nat.blt · n)=true)(aw:∀x∈xs,x.length=ps.size)(J:Nat->Ed->Ec)(Jx:Code->Nat->Ed->Ec)(hJ:∀k,Carr (J k))(U:∀c k,Carr (Jx c k))(hw:∀k X w,J k X w->Φ w)(h0:J 0 [] w)(ag:∀l D ob ah k x X w1,xs[k]?=some x->J k ((l,ob)::(D,.deferred (some []))::X) w1->
   qfn P n (some l) assign (qaaf λam ax ay=>BeginA (J k) l ob ah ay ax
    (λw2=>qfn P n (some l) body (qy3 (J (k+1) ((l,ah)::(D,.deferred (some []))::X)) (λc=>Jx c k ((l,ah)::(D,.deferred (some []))::X))) am [] w2)) (qtu ps.toList x ρ) [] w1)(ai:∀D w',J xs.length [(D,.deferred (some []))] w'->Q .normal ρ ({ target:=.collected D,args:=#[] }::ds) w')(aj:∀D c k w',k<xs.length->Jx c k [(D,.deferred (some []))] w'->qake c Q ρ ({ target:=.collected D,args:=#[] }::ds) w'):RangeW P n none f ps assign body Q ρ ds w:=by
 refine⟨λa ha hd=>?_⟩;subst hd;refine wpIn_rangeFunc ?_;intro fn az;obtain⟨V,H⟩:∃V:LoopState->Option Code->Loop,V=λst pe=>{ state:=st,pending:=pe,fn,tmps:=a.tmps,params:=ps,assign,body,defers:=w.heap.size }:=⟨_,rfl⟩
 obtain⟨W1,aq⟩:∃W1,(w.alloc (.deferred (some []))).alloc (.loop (V .ready none))=W1:=⟨_,rfl⟩
 have hD:=(hJ 0).new (.deferred (some [])) h0;have hL:=(hJ 0).new (.loop (V .ready none)) hD;rw[aq,World.size_alloc]at hL;refine⟨w.heap.size+1,[{ target:=.collected w.heap.size,args:=#[] }],W1,{ target:=.fn (.func gf) lb.toArray,args:=#[.func (.yield (w.heap.size+1)) #[] #[]] },W1,gf,
  #[.func (.yield (w.heap.size+1)) #[] #[]]++lb.toArray,W1,?_,?_,λ_ _=>trivial,?_,(by grind [Fr]),?_⟩
 ·rw[<-aq,H];exact run_enterLoop_outer _ _ _ _ _
 ·have:a.eval f=.func (.func gf) #[] lb.toArray:=by rw[ha.eval,hf]
  simp only[resolve,this];simp[go_sem]
 ·grind [invoke,qc7]
 ·have ea:#[Value.func (.yield (w.heap.size+1)) #[] #[]]++lb.toArray=(Value.func (.yield (w.heap.size+1)) #[] #[]::lb).toArray:=by simp
  rw[ea];refine qdf.2 ((al (w.heap.size+1) (λk X W=>J k (X++[(w.heap.size+1,.loop (V .ready none)),(w.heap.size,.deferred (some []))]) W)
   (λk X W=>∃c,Jx c k (X++[(w.heap.size+1,.loop (V .done (some c))),(w.heap.size,.deferred (some []))]) W) W1
   (λk=>(hJ k).tail _) (λk=>Carr.any λc=>(U c k).tail _) (by grind) hL ?_).2.mono ?_)
  ·intro k x X W hx hk;replace hk:=(hJ k).perm hk Au;have hl:=(hJ k).get hk mh;have hy:=run_yield (P:=P) (args:=x.toArray) hl (by rw[H];simpa using aw x (zmg hx));rw[H]at hy;refine⟨⟨fn,_,assign,body,hy,roundIn_of_wpIn az ?_⟩⟩;have h1:=ag (w.heap.size+1) w.heap.size _ (.loop { V .ready none with state:=.busy }) k x X W hx hk;have hz:(ps.zip x.toArray).foldl (λt (p,v)=>t.setIfInBounds p v) a.tmps=(ps.toList.zip x).foldl (λt (p,v)=>t.setIfInBounds p v) a.tmps:=by
    rw[<-Array.foldl_toList];simp
   have a0:Sw n (qtu ps.toList x ρ) { tmps:=(ps.zip x.toArray).foldl (λt (p,v)=>t.setIfInBounds p v) a.tmps,defers:=[] }:=by
    rw[hz];exact qza _ _ _ _ av ha
   refine Go.wpIn_mono (F:=Fr (some (w.heap.size+1))) (qgj assign _ _ _ _ h1 _ a0 rfl) λe a1 w1 Z=>?_;obtain⟨am,ar,Z⟩:=Z;cases e with
   | normal=>
    obtain⟨a3,Y,hY,ak⟩:=Z;have ak:=ak _ ((hJ k).set (.loop { V .ready none with state:=.busy }) hY);refine⟨_,run_beginRound ((hJ k).get hY mh) (by rw[H]),?_⟩;refine Go.wpIn_mono (F:=Fr (some (w.heap.size+1))) (qgj body _ _ _ _ ak _ ar a3) λe a2 w2 Z=>?_;obtain⟨a5,a4,Z⟩:=Z;cases e with
    | normal=>
     refine⟨_,_,run_endRound none ((hJ _).get Z mh),_,rfl,.inl ⟨rfl,?_⟩⟩;have:=(hJ (k+1)).perm ((hJ (k+1)).set (.loop (V .ready none)) Z) (Au (l₁:=[_,_]));rw[H]at this|-;exact this
    | ret=>
     refine⟨_,_,run_endRound (some .ret) ((U _ _).get Z mh),_,rfl,.inr ⟨rfl,.ret,?_⟩⟩;have:=(U _ k).perm ((U _ k).set (.loop (V .done (some .ret))) Z) (Au (l₁:=[_,_]));rw[H]at this|-;exact this
    | exit id=>
     refine⟨_,_,run_endRound (some (.exit id)) ((U _ _).get Z mh),_,rfl,.inr ⟨rfl,.exit id,?_⟩⟩;have:=(U _ k).perm ((U _ k).set (.loop (V .done (some (.exit id)))) Z) (Au (l₁:=[_,_]));rw[H]at this|-;exact this
    | goto t=>
     refine⟨_,_,run_endRound (some (.goto t)) ((U _ _).get Z mh),_,rfl,.inr ⟨rfl,.goto t,?_⟩⟩;have:=(U _ k).perm ((U _ k).set (.loop (V .done (some (.goto t)))) Z) (Au (l₁:=[_,_]));rw[H]at this|-;exact this
    | panic ch=>exact Z.elim
    | outgrown=>exact Z.elim
   | ret=>exact Z.elim
   | exit id=>exact Z.elim
   | goto t=>exact Z.elim
   | panic ch=>exact Z.elim
   | outgrown=>exact Z.elim
  ·rintro e W2 ⟨v,rfl,h|⟨k,hk,c,h⟩⟩
   ·have hl:=(hJ _).get h mh;have:=run_endLoop (P:=P) hl (by rw[H];simp);rw[H]at this;exact⟨none,_,this,ρ,ha,ai _ _ ((hJ _).drop ((hJ _).set _ h))⟩
   ·have hl:=(U _ _).get h mh;have:=run_endLoop (P:=P) hl (by rw[H];simp);rw[H]at this;refine⟨some c,_,this,?_⟩;have hs:=aj _ c k _ hk ((U _ _).drop ((U _ _).set (.loop { V .done (some c)with state:=.exhausted }) h));rw[H]at hs;cases c with
    | ret=>exact Go.wpIn_ret ⟨ρ,ha,hs⟩
    | exit id=>exact Go.wpIn_exit ⟨ρ,ha,hs⟩
    | goto t=>exact Go.wpIn_goto ⟨ρ,ha,hs⟩
    | _=>exact hs.elim
def q47(D:Nat):Deferred:={ target:=.collected D,args:=#[] }
def qafy(D:Nat):Nat×Obj:=(D,.deferred (some []))
theorem qj7{U:Func}{R:Ea}{ρ:Eb}{J:Ed->Ec}(V:Carr J)(Z:∀W,J [] W->resV U.results ρ W U R P n):
  ∀(H:Ef) (w:DU),J (H.map qafy) w->qof P n U R ρ (H.map q47) w
 | [],w,h=>Z w h
 | D::H,w,h=>by
  show LeaveV P n U R ρ (q47 D::H.map q47) w;refine LeaveV.mark (V.get h mh) λW hw=>?_;subst hw;exact qj7 V Z H _ (V.drop (V.set _ h))
theorem Carr.setM(h:Carr J){A B:Ed}{o:Obj}(H:Obj)(k:J (A++(b,o)::B) w):J (A++(b,H)::B) (setO w b H):=
 h.perm (h.set H (h.perm k Bz)) Bz.symm
theorem LeaveV.marks{H:Func}(V:Carr J)(W:∀U,J [] U->resV H.results ρ U H R P n){D:Nat}{Ds:Ef}(h:J ((D::Ds).map qafy) w):
  LeaveV P n H R ρ (q47 D::Ds.map q47) w:=qj7 V W (D::Ds) w h
theorem Carr.dropM(h:Carr J){A B:Ed}{x:Nat×Obj}(k:J (A++x::B) w):J (A++B) w:=h.drop (h.perm k Bz)
theorem qtt{v:DZ}{t:DX}(h:w.heap[b]?=some (.cells cs t fr)):w.setCell ⟨b,off,none⟩ v=setO w b (.cells (cs.setIfInBounds off v) t fr):=by
 unfold World.setCell setO
 congr 1
 grind
theorem StoreV.carr(U:Carr J){A B:Ed}{t:DX}{v:DZ}{K:Ec}(h:J (A++(b,.cells cs t)::B) w)(W:off<cs.size)(Z:qco v=true)(hk:∀H,J (A++(b,.cells (cs.setIfInBounds off v) t)::B) H->K H):StoreV w b off v K:=by
 have V:=U.get h (Ac _ mh);refine StoreV.own V W Z λH hw=>hk H ?_
 rw[hw,qtt V];exact U.setM _ h
theorem NewV.carr(U:Carr J){o:Obj}{K:Nat->Ec}(h:J X w)(V:∀b H,J ((b,o)::X) H->K b H):NewV w o K:=
 ⟨λb H W Z=>by subst W Z;exact V _ _ (U.new o h)⟩
theorem LoadV.carr(H:Carr J){t:DX}{v:DZ}{K:DZ->Prop}(h:J X w)(U:(b,Obj.cells cs t fr)∈X)(V:cs[off]?=some v)(W:K v):LoadV w b off K:=
 LoadV.own (H.get h U) V W
end
end V
namespace V
section
variable {P:DW} {n:Nat} {r:Option Nat}
def qta(ops:List Oper):Nat->Ef->Bool
 | 0,_=>true
 | j+1,S=>S.contains j&&qta ops j ((match getL ops j with|some o=>qa3 o|none=>[])++S)
def qahx(m:Nat)(ops:List Oper):Bool:=
 Nat.blt m ops.length&&qta ops m (match getL ops m with|some o=>qa3 o|none=>[])&&(List.range ops.length).all λj=>
  match getL ops j with
  | none=>true
  | some o=>(qa3 o).all (λk=>Nat.blt k j)&&(Nat.ble j m||(qa3 o).contains (j-1))&&(Nat.ble m j||(match o.guard with|none=>true|some (g,_)=>Nat.blt g m))
structure TailP(m:Nat)(ops:Array Oper):Prop where
 msz:m<ops.size
 reach:∀o,ops[m]?=some o->qta ops.toList m (qa3 o)=true
 lt:∀(j:Nat) (o:Oper),ops[j]?=some o->∀k∈qa3 o,k<j
 next:∀(j:Nat) (o:Oper),ops[j]?=some o->m<j->j-1∈qa3 o
 guard:∀(j:Nat) (o:Oper) (g:Nat) (b:Bool),ops[j]?=some o->j<m->o.guard=some (g,b)->g<m
theorem qabm(h:qahx m ops.toList=true):TailP m ops:=by
 simp only[qahx,AQ]at h;obtain⟨⟨W,h2⟩,Z⟩:=h;have hm:m<ops.size:=by simpa using W
 have U:∀(j:Nat) (o:Oper),ops[j]?=some o->(qa3 o).all (λk=>Nat.blt k j)=true/\(Nat.ble j m||(qa3 o).contains (j-1))=true/\(Nat.ble m j||(match o.guard with|none=>true|some (g,_)=>Nat.blt g m))=true:=λj o H=>by
  have V:=(Cg.1 H).1;have:=CJ.1 Z j (BP.2 (by simpa using V))
  grind [qa2]
 refine⟨hm,λo H=>?_,λj o H k hk=>?_,λj o H V=>?_,λj o g b H V hg=>?_⟩
 ·grind [qa2]
 ·simp_all
 ·have:=(U j o H).2.1;rw[DE]at this
  rcases this with h|h
  ·have:=CB h;omega
  simp_all
 ·have:=(U j o H).2.2;rw[hg,DE]at this
  rcases this with h|h
  ·have:=CB h;omega
  simp_all
theorem qyy{ops:Array Oper}{p:Nat->Prop}(H:∀(j:Nat) (o:Oper),ops[j]?=some o->p j->∀k∈qa3 o,p k):∀(j:Nat) (S:Ef),qta ops.toList j S=true->(∀k∈S,p k)->∀k,k<j->p k
 | 0,_,_,_,k,U=>by omega
 | j+1,S,h,V,k,U=>by
  rw[qta,AQ]at h;have W:p j:=(by grind)
  by_cases e:k=j
  ·simp_all
  ·refine qyy H j _ h.2 (λi hi=>?_) k Oo
   grind [qa2]
theorem runK{K:Eb->Ei->Ec}{a:Act}(hi:ops[i]?=some o)(hg:Region.wanted o (yielded ops a.tmps)=true)(Z:Sw n ρ a)(hd:a.defers=ds)(h:runW P n r o K ρ ds w)(hk:∀U H V W,Sw n U V->V.defers=H->K U H W->K' V W):wpOpIn (Fr r) 0 P ops Q' i K' a w:=by
 unfold wpOpIn;rw[hi];dsimp only;rw[Ad hg];refine qadd Z hd h λv H W hp=>?_;obtain⟨U,h1,h2,h3⟩:=Z.put H hp
 grind
theorem q6l{K:Eb->Ei->Ec}{a:Act}(hi:ops[i]?=some o)(hg:Region.wanted o (yielded ops a.tmps)=false)(ha:Sw n ρ a)(hd:a.defers=ds)(h:qv5 n o K ρ ds w)(hk:∀H U W Z,Sw n H W->W.defers=U->K H U Z->K' W Z):wpOpIn (Fr r) 0 P ops Q' i K' a w:=by
 unfold wpOpIn;rw[hi];dsimp only;rw[Aa (by rw[hg];simp)];refine⟨λ_ _=>trivial,?_⟩;obtain⟨H,h1,h2,h3⟩:=ha.put ds h;have e:({ a with defers:=ds }:Act)=a:=by subst hd;rfl
 grind
theorem regK{ops:List Oper}{Q:Eb->Ei->Ec}{H:List Oper}(hi:ops.toArray[i]?=some o){a:Act}(W:Sw n ρ a)(hd:a.defers=ds)(h:regW P n r ops Q (o::H) ρ ds w)(ag:∀U V Z w',Sw n U Z->Z.defers=V->regW P n r ops Q H U V w'->K' Z w'):wpOpIn (Fr r) 0 P ops.toArray Q' i K' a w:=by
 unfold regW at h
 split at h
 ·grind [runK,Region.wanted]
 ·rename_i j af hg
  split at h
  ·grind [qa2,q6l,Region.wanted,yielded]
  ·rename_i oj hj
   split at h
   ·grind [q6l,qa2,Region.wanted,yielded]
   ·rename_i d aa
    cases hn:Nat.blt d n<;>rw[hn]at h
    ·exact h.elim
    ·have ad:d<n:=by simpa using hn
     have hy:=W.yield hj aa ad;simp only[cond_true]at h
     split at h
     ·rename_i b hb
      rw[hb]at hy;cases b
      ·have h:=h.f rfl;have ae:Sw n _ a:=St.same W hb
       grind [runK,Region.wanted,q6l]
      ·have h:=h.t rfl;have ae:Sw n _ a:=St.same W hb
       grind [q6l,Region.wanted,runK]
     grind [q6l,Region.wanted]
def qja(i c:Nat):Array Bool:=(List.replicate i true++List.replicate c false).toArray
theorem qpp(d:Bool)(h:j<i):(qja i c).getD j d=true:=by
 simp_all[qja,Ba]
theorem q84(h:i<=j):(qja i c).getD j false=false:=by
 rw[qja,Ce,An,Be (by simpa using h),List.getElem?_replicate]
 grind
theorem q83(h:i<=j)(H:j<i+c):(qja i c).getD j true=false:=by
 simp_all[qja]
theorem q20(i c:Nat):(qja i (c+1)).setIfInBounds i true=qja (i+1) c:=by
 rw[<-BA,Ci];show(List.replicate i true++List.replicate (c+1) false).set i true=List.replicate (i+1) true++List.replicate c false
 grind [List.replicate_succ']
theorem qtj{m:Nat}{ops:Array Oper}(V:TailP m ops){Q:QW}:∀(c i:Nat) (ρ:Eb) (ds:Ei) (a:Act) (w:DU),m<=i->i+c=ops.size->Sw n ρ a->a.defers=ds->regW P n r ops.toList (Q .normal) (ops.toList.drop i) ρ ds w->
  wpAnyIn (Fr r) 0 P .any ops (qfk n Q) c (qja i c) a w
 | 0,i,ρ,ds,a,w,W,hi,Z,hd,h=>by
  refine⟨qtc λk hk=>qpp _ Oo,ρ,Z,?_⟩;rw[List.drop_of_length_le Ys]at h;subst hd;exact h
 | c+1,i,ρ,ds,a,w,W,hi,Z,hd,h=>by
  have af:i<ops.size:=by omega
  have H:ops[i]?=some ops[i]:=(by simp)
  have ag:i∈Region.ready .any ops (qja i (c+1)):=by
   refine mem_ready.2 ⟨(by grind [q83]),ops[i],H,λe he hb=>qpp _ ?_⟩;rw[qev]at hb;exact V.lt i _ H _ (qcu.2 ⟨e,by simpa using he,hb,rfl⟩)
  refine⟨(by grind),λj hj=>?_⟩;obtain⟨U,o,ho,h2⟩:=mem_ready.1 hj;have ah:=(Cg.1 ho).1;have e:j=i:=by
   rcases Bj j i with g|g
   ·rw[qpp _ g]at U;cases U
   ·rcases Dj g with g|g
    ·exact g.symm
    ·exfalso
     obtain⟨e,he,hb,ai⟩:=qcu.1 (V.next j o ho Oo)
     grind [qev,q84]
  subst e;rw[q20];have aa:ops.toList.drop j=ops[j]::ops.toList.drop (j+1):=by
   grind [List.drop_eq_getElem_cons]
  rw[aa]at h;have:=regK (ops:=ops.toList) (i:=j) (Q':=qfk n Q) (K':=wpAnyIn (Fr r) 0 P .any ops (qfk n Q) c (qja (j+1) c)) Oo Z hd h λad ae a' w' U h2 h3=>qtj V c (j+1) ad ae a' w' Oo Oo U h2 h3
  omega
theorem q75(hT:TailP m ops)(a3:r=none\/q5a (ops.toList.take m)=true){Q:QW}:∀(fuel:Nat) (L:Array Bool) (a:Act) (w:DU),L.size=m->L.toList.count false=fuel->
  (∀(j:Nat) (o:Oper),ops[j]?=some o->L.getD j false=true->∀k∈qa3 o,L.getD k false=true)->
  wpAny P .any (ops.toList.take m).toArray (λe a' w'=>e=.normal/\∃U,St n U a'/\regW P n r ops.toList (Q .normal) (ops.toList.drop m) U ds w') fuel L a w->
  wpAnyIn (Fr r) 0 P .any ops (qfk n Q) (fuel+(ops.size-m)) (L++Array.replicate (ops.size-m) false) { a with defers:=a.defers++ds } w:=by
 intro fuel;have a4:=hT.msz;have af:∀j:Nat,j<m->(ops.toList.take m).toArray[j]?=ops[j]?:=(by grind)
 have W:∀(L:Array Bool),L.size=m->∀(j:Nat) (d:Bool),j<m->(L++Array.replicate (ops.size-m) false).getD j d=L.getD j d:=λL hL j d hj=>by
  simp_all[Array.getElem?_append_left]
 have aq:∀(L:Array Bool),L.size=m->∀j:Nat,m<=j->(L++Array.replicate (ops.size-m) false).getD j false=false:=λL hL j hj=>by
  rw[Ce,Array.getElem?_append_right Oo,Array.getElem?_replicate]
  grind
 have ah:∀(L:Array Bool),L.size=m->L.toList.count false=0->L=Array.replicate m true:=(by grind [Array.getElem_mem])
 have ar:∀(L:Array Bool) (a:Act) (w:DU),L.size=m->L.toList.count false=0->(∃U,St n U a/\regW P n r ops.toList (Q .normal) (ops.toList.drop m) U ds w)->
   wpAnyIn (Fr r) 0 P .any ops (qfk n Q) (0+(ops.size-m)) (L++Array.replicate (ops.size-m) false) { a with defers:=a.defers++ds } w:=λL a w hL h0 ⟨U,h1,h2⟩=>by
  rw[ah L hL h0,As];have e:Array.replicate m true++Array.replicate (ops.size-m) false=qja m (ops.size-m):=by
   simp[qja]
  rw[e];refine qtj hT (ops.size-m) m U ds _ w Oo Oo ?_ ?_ h2
  ·show St n U { a with defers:=[] };have:({ a with defers:=[] }:Act)=a:=by have:=h1.defers;cases a;cases this;rfl
   simp_all
  ·show a.defers++ds=ds;rw[h1.defers];rfl
 induction fuel with
 | zero=>
  intro L a w hL h0 ai h;exact ar L a w hL h0 h.2.2
 | succ fuel ih=>
  intro L a w hL h0 ai h;have au:∀i,i∈Region.ready .any ops (L++Array.replicate (ops.size-m) false)↔i∈Region.ready .any (ops.toList.take m).toArray L:=by
   intro i
   constructor
   ·intro hi;obtain⟨g1,o,ho,g2⟩:=mem_ready.1 hi;have aa:i<m:=by
     refine Nat.lt_of_not_le λg=>?_;have aj:∀k∈qa3 o,(L++Array.replicate (ops.size-m) false).getD k false=true:=λk hk=>by
      obtain⟨e,he,hb,ak⟩:=qcu.1 hk
      grind [qev]
     rcases Dj g with g|g
     ·subst g;have Z:=qyy (ops:=ops) (p:=λk=>L.getD k false=true) ai m _ (hT.reach o ho) λk hk=>by
       have:=aj k hk
       rwa[W L hL k false (by grind)]at this
      have hz:L.toList.count false=0:=by
       rw[List.count_eq_zero];intro ad;obtain⟨k,hk,e⟩:=BY.1 ad;have al:k<L.size:=by omega
       have:=Z k Oo;simp[al]at this e
       grind
      omega
     ·have:=aj _ (hT.next i o ho g)
      grind
    refine mem_ready.2 ⟨by simp_all,o,by simp_all,λe he hb=>?_⟩;have h1:=g2 e he hb
    rwa[W L hL _ _ (by grind)]at h1
   ·intro hi;obtain⟨g1,o,ho,g2⟩:=mem_ready.1 hi;have aa:i<m:=by
     grind
    rw[af i aa]at ho;refine mem_ready.2 ⟨by simp_all,o,ho,λe he hb=>?_⟩;rw[W L hL _ _ (by grind)]
    simp_all
  have a5:∃i,i∈Region.ready .any ops (L++Array.replicate (ops.size-m) false):=by
   have ad:false∈L.toList:=(by grind)
   obtain⟨k,hk,e⟩:=BY.1 ad;have al:k<L.size:=by omega
   have hex:∃k,k<m/\L.getD k false=false:=⟨k,by omega,by simp_all⟩
   have av:∀k,k<m->L.getD k false=false->∃i,i∈Region.ready .any ops (L++Array.replicate (ops.size-m) false):=by
    intro k
    induction k using Nat.strongRecOn with
    | _ k a6=>
     intro a7 a8;have ho:ops[k]?=some ops[k]:=(by simp)
     by_cases Z:∀p∈qa3 ops[k],L.getD p false=true
     ·refine⟨k,mem_ready.2 ⟨?_,ops[k],ho,λe he hb=>?_⟩⟩
      ·simp_all
      ·have hp:e.on∈qa3 ops[k]:=qcu.2 ⟨e,by simpa using he,by rw[<-qev];exact hb,rfl⟩;rw[W L hL _ _ (by grind)];exact Z _ hp
     ·obtain⟨p,hp⟩:=Classical.not_forall.1 Z;obtain⟨aw,a9⟩:=Classical.not_imp.1 hp;have:=hT.lt k _ ho p aw
      grind
   grind
  rw[show fuel+1+(ops.size-m)=(fuel+(ops.size-m))+1 by omega];refine⟨(by grind),λi hi=>?_⟩;have am:=(au i).1 hi;obtain⟨g1,o,ho,g2⟩:=mem_ready.1 am;have aa:i<m:=by
   grind
  have ae:=ho;rw[af i aa]at ae;have h1:=h.2 i am;have ax:(L++Array.replicate (ops.size-m) false).setIfInBounds i true=L.setIfInBounds i true++Array.replicate (ops.size-m) false:=by
   rw[<-BA];simp only[Ci,Array.toList_append];rw[List.set_append_left _ _ (by simpa[hL]using aa)]
  have ay:L.getD i true=false:=g1;have a2:=V.countP_set L i ay;have az:∀a' w',wpAny P .any (ops.toList.take m).toArray (λe a' w'=>e=.normal/\∃U,St n U a'/\regW P n r ops.toList (Q .normal) (ops.toList.drop m) U ds w') fuel (L.setIfInBounds i true) a' w'->
    wpAnyIn (Fr r) 0 P .any ops (qfk n Q) (fuel+(ops.size-m)) ((L++Array.replicate (ops.size-m) false).setIfInBounds i true) { a' with defers:=a'.defers++ds } w':=λa' w' hw=>by
   rw[ax];refine ih _ a' w' (by simp[hL]) Oo (λj oj an a0 k hk=>?_) hw
   by_cases ao:i=j
   ·subst ao;rw[ae]at an;cases an;obtain⟨e,he,hb,ak⟩:=qcu.1 hk;have:=g2 e (by simpa using he) (by rw[qev];exact hb);rw[ak]at this;exact getD_set_true this
   ·rw[getD_set_ne false ao]at a0
    grind [getD_set_true]
  have ag:∀tm,Region.wanted o (yielded ops tm)=Region.wanted o (yielded (ops.toList.take m).toArray tm):=λtm=>by
   cases hg:o.guard with
   | none=>simp[Region.wanted,hg]
   | some gb=>
    obtain⟨g,b⟩:=gb;have:=hT.guard i o g b ae aa hg;have e:yielded ops tm g=yielded (ops.toList.take m).toArray tm g:=by
     grind [yielded]
    simp only[Region.wanted,hg,e]
  have a1:r=none\/∀c,o.op≠.defer c:=(by grind [qyn])
  unfold wpOp at h1;unfold wpOpIn;rw[ho]at h1;rw[ae];dsimp only at h1|-;rw[ag]
  split
  ·rename_i hw
   rw[Ad hw]at h1
   rcases h1 with h1|⟨_,a',w',hq⟩
   ·exact qo4 a1 (λ_ _ _ h=>h.1) az h1
   grind
  ·rename_i hw
   rw[Aa hw]at h1;refine⟨λ_ _=>trivial,?_⟩;have hp:({ a with defers:=a.defers++ds }:Act).put o.dst undef={ a.put o.dst undef with defers:=(a.put o.dst undef).defers++ds }:=by cases o.dst<;>rfl
   grind
theorem DrawW.tail{Q:QW}(m:Nat)(hm:P.follows .mixedOrders=true)(hB:qahx m ops.toList=true)(U:r=none\/q5a (ops.toList.take m)=true)(h:AnyV P n (ops.toList.take m).toArray (λV w'=>regW P n r ops.toList (Q .normal) (ops.toList.drop m) V ds w') ρ w):DrawW P n r id ops Q ρ ds w:=by
 refine⟨λa ha hd=>wpIn_region_any hm ?_⟩;have hT:=qabm hB;have W:=hT.msz;have e:a={ ({ a with defers:=[] }:Act)with defers:=({ a with defers:=[] }:Act).defers++ds }:=by subst hd;rfl
 have Z:(ops.toList.take m).toArray.size=m:=by simp;omega
 have h0:=h.h { a with defers:=[] } ha;rw[Z]at h0;have h1:=q75 (r:=r) (Q:=Q) hT U m (Array.replicate m false) { a with defers:=[] } w.drew Js Js (λj o _ hl=>by rw[qfo]at hl;cases hl) h0;rw[<-e]at h1;have e2:m+(ops.size-m)=ops.size:=by omega
 have e3:Array.replicate m false++Array.replicate (ops.size-m) false=Array.replicate ops.size false:=by
  rw[<-BA];simp[Nat.add_sub_cancel' (Nat.le_of_lt W)]
 rw[e2,e3]at h1;exact h1
end
end V
end Go.Proofs.YtccmcfpmknpccaaGreatDoor
