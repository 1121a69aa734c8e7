/- Lemmas and contracts of functions on the way to the law's card (part 8 of 11). -/
import Derived.Test.YtccmcfpmknpccaaGreatDoorSO7
import Derived.Lib.AppendStr
import Derived.Shelf.Lay
import Derived.Shelf.LaySoft
import Derived.Shelf.SlSortCmp.WholeK
import Derived.Test.YtccmcfpmknpccaaGreatDoorProg
import Derived.Laws.CopyRow
import Derived.Laws.IdiomCopy
import Derived.Shelf.SlSortCmp.NoneTotal
namespace Go.Proofs.YtccmcfpmknpccaaGreatDoor
set_option maxHeartbeats 8000000
open Go.RowKit V
def Tryz.srt_ren:Go.Shelf.Ren:=⟨fun|6=>123|15=>204|14=>203|28=>279|29=>259|20=>271|21=>272|22=>273|23=>274|24=>275|25=>276|26=>277|27=>278|46=>332|47=>333|48=>334|49=>335|50=>336|57=>371|n=>n,fun|22=>28|24=>45|25=>66|3=>3|39=>272|0=>0|53=>179|55=>164|4=>4|46=>408|45=>407|50=>153|5=>5|9=>9|66=>447|70=>450|76=>477|77=>58|n=>n,fun|n=>n⟩
theorem Tryz.srt:Go.Proofs.SlLaysF0.n6 Tryz.prog Tryz.srt_ren:={mixed:=Jk,f6:=⟨Tryz.f123.name,Od,Tryz.func123.trans (congrArg some Jk)⟩,f14:=⟨Tryz.f203.name,Od,Tryz.func203.trans (congrArg some Jk)⟩,f15:=Tryz.func204.trans (congrArg some Jk),f20:=⟨Tryz.f271.name,Od,Tryz.func271.trans (congrArg some Jk)⟩,f21:=⟨Tryz.f272.name,Od,Tryz.func272.trans (congrArg some Jk)⟩,f22:=⟨Tryz.f273.name,Od,Tryz.func273.trans (congrArg some Jk)⟩,f23:=⟨Tryz.f274.name,Od,Tryz.func274.trans (congrArg some Jk)⟩,f24:=⟨Tryz.f275.name,Od,Tryz.func275.trans (congrArg some Jk)⟩,f25:=⟨Tryz.f276.name,Od,Tryz.func276.trans (congrArg some Jk)⟩,f26:=⟨Tryz.f277.name,Od,Tryz.func277.trans (congrArg some Jk)⟩,f27:=⟨Tryz.f278.name,Od,Tryz.func278.trans (congrArg some Jk)⟩,f28:=Tryz.func279.trans (congrArg some Jk),f29:=Tryz.func259.trans (congrArg some Jk),f46:=⟨Tryz.f332.name,Od,Tryz.func332.trans (congrArg some Jk)⟩,f47:=Tryz.func333.trans (congrArg some Jk),f48:=Tryz.func334.trans (congrArg some Jk),f49:=⟨Tryz.f335.name,Od,Tryz.func335.trans (congrArg some Jk)⟩,f50:=⟨Tryz.f336.name,Od,Tryz.func336.trans (congrArg some Jk)⟩,f57:=⟨Tryz.f371.name,Od,Tryz.func371.trans (congrArg some Jk)⟩,t0:=Tryz.underlying0,a0:=Tryz.isAgg0,z0:=Tryz.sizeOf0,v0:=Tryz.zeroValue0,t3:=Tryz.underlying3,a3:=Tryz.isAgg3,z3:=Tryz.sizeOf3,v3:=Tryz.zeroValue3,t4:=Tryz.underlying4,a4:=Tryz.isAgg4,z4:=Tryz.sizeOf4,v4:=Tryz.zeroValue4,t5:=Tryz.underlying5,a5:=Tryz.isAgg5,z5:=Tryz.sizeOf5,v5:=Tryz.zeroValue5,t9:=Tryz.underlying9,a9:=Tryz.isAgg9,z9:=Tryz.sizeOf9,v9:=Tryz.zeroValue9,t22:=Tryz.underlying28,a22:=Tryz.isAgg28,z22:=Tryz.sizeOf28,v22:=Tryz.zeroValue28,t25:=Tryz.underlying66,a25:=Tryz.isAgg66,z25:=Tryz.sizeOf66,v25:=Tryz.zeroValue66,t39:=Tryz.underlying272,a39:=Tryz.isAgg272,z39:=Tryz.sizeOf272,v39:=Tryz.zeroValue272,t45:=Tryz.underlying407,a45:=Tryz.isAgg407,z45:=Tryz.sizeOf407,v45:=Tryz.zeroValue407,t46:=Tryz.underlying408,a46:=Tryz.isAgg408,z46:=Tryz.sizeOf408,v46:=Tryz.zeroValue408,t50:=Tryz.underlying153,a50:=Tryz.isAgg153,z50:=Tryz.sizeOf153,v50:=Tryz.zeroValue153,t53:=Tryz.underlying179,a53:=Tryz.isAgg179,z53:=Tryz.sizeOf179,v53:=Tryz.zeroValue179,t55:=Tryz.underlying164,a55:=Tryz.isAgg164,z55:=Tryz.sizeOf164,v55:=Tryz.zeroValue164,t66:=Tryz.underlying447,a66:=Tryz.isAgg447,z66:=Tryz.sizeOf447,v66:=Tryz.zeroValue447,t70:=Tryz.underlying450,a70:=Tryz.isAgg450,z70:=Tryz.sizeOf450,v70:=Tryz.zeroValue450,t76:=Tryz.underlying477,a76:=Tryz.isAgg477,z76:=Tryz.sizeOf477,v76:=Tryz.zeroValue477,t77:=Tryz.underlying58,a77:=Tryz.isAgg58,z77:=Tryz.sizeOf58,v77:=Tryz.zeroValue58}
variable {ahead l:LB} {N a b c d g i id j k m pb sz tb vb:Nat} {T:List TM} {qs:List Q4} {w w':DA} {X Y:DJ} {news vs xs:DK} {P:DC} {ty:DD} {z:DF} {A:oA} {K:DG} {cs cur:DN} {p:Prop} {J:DJ->DI} {pl:Int} {ρ:DH} {o:Oper} {xo yo:Operand}
theorem q45(c:DE):UInt8.ofNat c.toNat=c:=by simp
theorem qly:∀(l:LB) (i a:Nat),i<=9->(qfq i a l).2.2=0->∃n r,l=varL n++r/\(0<i->0<n)/\qfq i a l=(a+n*2 ^ (7*i),i+(varL n).length,0)
 | [],i,a,_,h=>by cases h
 | c::l,i,a,hi,h=>by
  have hc:c.toNat<256:=c.toBitVec.isLt;rw[qdh]at h|-
  split at h
  ·cases h
  rename_i H
  rw[Aa H]
  split at h
  ·rename_i V
   refine⟨c.toNat,l,?_,λh0=>by omega,?_⟩
   all_goals grind [qok,q45]
  ·rename_i V
   obtain⟨n,r,h3,h4,h5⟩:=qly l (i+1) (a+c.toNat%128*2 ^ (7*i)) Oo h;have hn:=h4 Oo;have e1:(n*128+c.toNat%128)%128=c.toNat%128:=by omega
   have e2:(n*128+c.toNat%128)/128=n:=by omega
   have e3:varL (n*128+c.toNat%128)=c::varL n:=by
    grind [qoj,q45]
   grind
theorem qdi(h:(numL l).2.2=0):l=varL (numL l).1++l.drop (numL l).2.1/\(numL l).2.1=(varL (numL l).1).length:=by
 obtain⟨n,r,H,_,V⟩:=qly l 0 0 Oo h
 grind [numL]
theorem q18{a b:DE}(h:∀r,r<8->a.toNat/2 ^ r%2=b.toNat/2 ^ r%2):a=b:=by
 have H:a.toNat<256:=a.toBitVec.isLt;have V:b.toNat<256:=b.toBitVec.isLt;have h0:=h 0 Od;have h1:=h 1 Od;have h2:=h 2 Od;have h3:=h 3 Od;have h4:=h 4 Od;have h5:=h 5 Od;have h6:=h 6 Od;have h7:=h 7 Od
 grind [UInt8.toNat_inj]
theorem qwx{p q:LB}(H:p.length=q.length)(h:∀t,t<8*p.length->bitN p t=bitN q t):p=q:=by
 apply Dm H;intro b V h2;refine q18 λr hr=>?_;have:=h (8*b+r) Oo;rw[bitN,bitN,show(8*b+r)/8=b by omega,show(8*b+r)%8=r by omega]at this
 simp_all
theorem qy8(p:LB)(f:Nat):∀{w k:Nat},k<w->valB p f w/2 ^ k%2=bitN p (f+k)
 | w+1,k,h=>by
  have H:=qc7 p (f+w);have V:=qji p f w;rw[valB]
  by_cases e:k=w
  ·grind [Nat.add_mul_div_right,Nat.div_eq_of_lt]
  ·have ih:=qy8 p f (w:=w) (k:=k) Oo;obtain⟨d,rfl⟩:∃d,w=k+1+d:=⟨w-(k+1),by omega⟩
   grind [Nat.mul_comm,Nat.mul_left_comm,Nat.add_mul_div_right]
theorem qn5{p:LB}{n w:Nat}(V:p.length=(n*w+7)/8)(hp:¬PadB p (n*w)):p=qed (unpN p n w) w:=by
 have H:(unpN p n w).length=n:=by simp[unpN]
 refine qwx (by rw[qdt,H,V]) λt ht=>?_
 by_cases h:t<n*w
 ·have hw:0<w:=Nat.pos_of_ne_zero λe=>by simp_all
  have e1:t=t/w*w+t%w:=(Nat.div_add_mod' t w).symm
  grind [Nat.div_lt_iff_lt_mul,Nat.mod_lt,qsk,unpN,qy8]
 ·have h1:bitN p t≠1:=λe=>hp ⟨t,by omega,ht,e⟩
  have h2:bitN (qed (unpN p n w) w) t≠1:=λe=>ql0 (unpN p n w) w ⟨t,by rw[H];omega,by grind [qdt],e⟩
  grind [qc7]
theorem q2y{m:LB}{first:Bool}(h:(entG m first ahead).2.2=0)(H:first=false->(numL m).1=comL (entG m first ahead).1 ahead):
  m=entE first ahead (entG m first ahead).1++m.drop (entG m first ahead).2.1/\(entG m first ahead).2.1=(entE first ahead (entG m first ahead).1).length:=by
 cases first with
 | true=>
  unfold entG at h|-;rw[Ab rfl]at h|-;dsimp only at h|-;rw[Aa Oo,Bn]at h|-
  by_cases V:(numL m).2.2=0
  case neg=>simp_all
  rw[Aa Oo]at h|-;rw[Aa Oo]at h|-
  by_cases h2:262144<(numL m).1\/262144<0+(numL m).1
  case pos=>simp_all
  rw[Aa h2]at h|-
  by_cases h3:m.length-0-(numL m).2.1<(numL m).1
  case pos=>simp_all
  rw[Aa h3];obtain⟨c1,c2⟩:=qdi V;simp only[Br,Bi,As]
  grind [entE,List.take_append_drop]
 | false=>
  have H:=H rfl;unfold entG at h H|-;rw[Aa Dz]at h H|-;dsimp only at h H|-
  by_cases h0:(numL m).2.2=0
  case neg=>simp_all
  rw[Aa Oo]at h H|-
  by_cases V:(numL (m.drop (numL m).2.1)).2.2=0
  case neg=>simp_all
  rw[Aa Oo]at h H|-
  by_cases h4:ahead.length<(numL m).1
  case pos=>grind
  rw[Aa h4]at h H|-
  by_cases h2:262144<(numL (m.drop (numL m).2.1)).1\/262144<(numL m).1+(numL (m.drop (numL m).2.1)).1
  case pos=>grind
  rw[Aa h2]at h H|-
  by_cases h3:m.length-(numL m).2.1-(numL (m.drop (numL m).2.1)).2.1<(numL (m.drop (numL m).2.1)).1
  case pos=>simp_all
  rw[Aa h3]at H|-;obtain⟨c1,c2⟩:=qdi h0;obtain⟨d1,d2⟩:=qdi V;dsimp only at H|-;obtain⟨c,ad⟩:∃c,c=(numL m).1:=⟨_,rfl⟩
  obtain⟨k1,aa⟩:∃k,k=(numL m).2.1:=⟨_,rfl⟩
  rw[<-aa]at V h2 h3 H d1 d2|-;obtain⟨q,hq⟩:∃q,q=(numL (m.drop k1)).1:=⟨_,rfl⟩
  obtain⟨k2,ae⟩:∃k,k=(numL (m.drop k1)).2.1:=⟨_,rfl⟩
  grind [entE,qlb,List.drop_drop,List.take_append_drop]
def txsD(m:LB):List LB:=(List.range (dN m)).map λi=>(dSt m (i+1)).1
theorem qdf(m:LB):(txsD m).length=dN m:=by simp[txsD]
theorem qv6{m:LB}(h:i<dN m):tx (txsD m) i=(dSt m (i+1)).1:=by
 grind [tx,txsD]
section
variable {m:LB} (h:(doE m).2=0)
include h
theorem qaa0(hi:i<dN m):(i%16=0->q5 m (i/16)=(dSt m i).2)/\(entG ((qe m).drop (dSt m i).2) (decide (i%16=0)) (dSt m i).1).2.2=0/\
  (decide (i%16=0)=false->(numL ((qe m).drop (dSt m i).2)).1=comL (dSt m (i+1)).1 (dSt m i).1):=by
 have H:=(qb4 h).2.2.1 i hi;rw[dnF]at H
 grind
theorem qik:∀{i:Nat},i<=dN m->qe m=arL (txsD m) i++(qe m).drop (dSt m i).2/\(dSt m i).2=(arL (txsD m) i).length
 | 0,_=>⟨rfl,rfl⟩
 | i+1,hi=>by
  obtain⟨H,V⟩:=qik (i:=i) Oo;obtain⟨h1,h2,h3⟩:=qaa0 h (i:=i) hi;obtain⟨c1,c2⟩:=q2y h2 h3;have e0:(if i=0 then[]else tx (txsD m) (i-1))=(dSt m i).1:=by
   by_cases e:i=0
   ·subst e;rfl
   grind [qv6]
  grind [arL,dSt,qv6,List.drop_drop]
theorem qwt:qdb (txsD m)=qe m:=by
 obtain⟨H,V⟩:=qik h znr;have h3:=(qb4 h).2.2.2
 grind [qdb,qdf]
theorem qzo:m=q8 (txsD m):=by
 obtain⟨hE,hO,_,_⟩:=qb4 h;have ha:=qwt h;have e2:(errF (dhF m) 2).2=0:=Aw λg=>by grind [dE]
 rw[dE,Aa Oo]at hE
 by_cases l1:m.length<dEnd m
 case pos=>simp_all
 rw[Aa l1]at hE
 by_cases l2:dEnd m<m.length
 case pos=>simp_all
 have n0:(numL (m.drop (vAt m 0))).2.2=0:=Aw λg=>by
  have:=qas (n:=2) e2 0 Oo
  grind [dhF,qbv]
 have n1:(numL (m.drop (vAt m 1))).2.2=0:=Aw λg=>by
  have:=qas (n:=2) e2 1 Oo
  grind [dhF,qbv]
 obtain⟨c1,c2⟩:=qdi n0;obtain⟨d1,d2⟩:=qdi n1;have a1:vAt m 1=(numL (m.drop (vAt m 0))).2.1:=As _;have a2:qag m=vAt m 1+(numL (m.drop (vAt m 1))).2.1:=rfl;have hf:qg m=qag m+(upN (dN m) 16*dW m+7)/8:=rfl;have af:dEnd m=qg m+qdc m:=rfl;have H:(qe m).length=qdc m:=by grind [qe]
 have V:(qw m).length=(upN (dN m) 16*dW m+7)/8:=by grind [qw]
 have aa:qw m=qed (unpN (qw m) (upN (dN m) 16) (dW m)) (dW m):=qn5 V λg=>(qp3 _ _ _).2 g hO
 have ad:unpN (qw m) (upN (dN m) 16) (dW m)=plcL (txsD m):=by
  rw[unpN,plcL,qdf];refine Cu λk hk=>?_;rw[BB]at hk;have ae:16*k<dN m:=by grind [upN]
  have h1:=(qaa0 h ae).1 Oo;rw[show 16*k/16=k by omega,(qik h (i:=16*k) Oo).2]at h1;exact h1
 have hw:dW m=qbg (qdb (txsD m)).length:=by rw[ha,H];rfl
 rw[ad,hw]at aa;have hd:q8 (txsD m)=varL (dN m)++(varL (qdc m)++(qw m++qe m)):=by grind [q8,qdf]
 have r0:m=varL (dN m)++m.drop (vAt m 1):=by
  rw[a1];rw[vAt,Bn]at c1|-;exact c1
 have r1:m.drop (vAt m 1)=varL (qdc m)++m.drop (qag m):=by
  rw[a2,<-Am];exact d1
 have r2:m.drop (qag m)=qw m++qe m:=by
  rw[qw,qe,show m.drop (qg m)=(m.drop (qag m)).drop (qg m-qag m)by rw[Am];congr 1;omega,AM]
 grind
end
theorem qev(h:(numL (l.drop (vAt l k))).2.2=0):l.drop (vAt l k)=varL (vNum l k)++l.drop (vAt l (k+1)):=by
 have H:=(qdi h).1;rw[Am]at H;exact H
theorem q9w(h:(sE l).2=0):l=jo3 (sDict l 0) (sDict l 1) (sDict l 2):=by
 have V:(errF (vsF l) 3).2=0:=Aw λg=>by grind [sE]
 rw[sE,Aa Oo]at h
 by_cases l1:l.length<qj l 3
 case pos=>simp_all
 rw[Aa l1]at h
 by_cases l2:qj l 3<l.length
 case pos=>simp_all
 have H:∀k,k<3->(numL (l.drop (vAt l k))).2.2=0:=λk hk=>Aw λg=>by
  have:=qas (n:=3) V k hk
  grind [vsF,qbv]
 have s1:qj l 1=vAt l 3+vNum l 0:=rfl;have s2:qj l 2=vAt l 3+vNum l 0+vNum l 1:=rfl;have s3:qj l 3=vAt l 3+vNum l 0+vNum l 1+vNum l 2:=rfl;have d0:(sDict l 0).length=vNum l 0:=by rw[sDict,Ar,zld];show min _ (_-vAt l 3)=_;omega
 have d1:(sDict l 1).length=vNum l 1:=by grind [sDict]
 have d2:(sDict l 2).length=vNum l 2:=by grind [sDict]
 have r0:l=varL (vNum l 0)++l.drop (vAt l 1):=qev (k:=0) (H 0 Od);have r1:=qev (k:=1) (H 1 Od);have r2:=qev (k:=2) (H 2 Od);have r3:l.drop (vAt l 3)=sDict l 0++(sDict l 1++sDict l 2):=by
  have b2:sDict l 2=l.drop (qj l 2):=by rw[sDict,Aj];rw[zld];omega
  have b1:l.drop (qj l 1)=sDict l 1++l.drop (qj l 2):=by
   rw[sDict,show qj l 2=qj l 1+vNum l 1 from rfl,<-Am,AM]
  have b0:l.drop (qj l 0)=sDict l 0++l.drop (qj l 1):=by
   rw[sDict,show qj l 1=qj l 0+vNum l 0 from rfl,<-Am,AM]
  rw[b2,<-b1];exact b0
 grind [jo3]
theorem q1o(h:(vwE l).2=0):l=jo3 (q8 (txsD (sDict l 0))) (q8 (txsD (sDict l 1))) (q8 (txsD (sDict l 2))):=by
 grind [qe2,qzo,q9w]
theorem q67(H:vOk l=true)(h:(voE l).2=0):l=qa3 (vD l) (vN l):=by
 obtain⟨_,V,h3⟩:=qk5 h;simp only[vOk,AF,decide_eq_true_eq]at H;obtain⟨⟨⟨v1,v2⟩,v3⟩,v4⟩:=H;have hg:qx (vN l)=8+upN (vN l) 8:=rfl;have he:qax (vN l) (vM l)=qx (vN l)+4*upN (vN l) 2048+2*upN (vN l) 256+4*upN (vM l) 512:=rfl;have hd:(vD l).length=upN (vN l) 8:=by grind [vD]
 have aa:(qa3 (vD l) (vN l)).length=l.length:=by grind [qej]
 have e1:fixL (vN l) 4=l.take 4:=(qrx (by grind) Oo).2 rfl;have e2:fixL (cnt (vD l) (vN l)) 4=(l.drop 4).take 4:=(qrx (by grind) Oo).2 V.symm;have e3:l.drop (qx (vN l))=gL (vD l) (vN l)++(sL (vD l) (vN l)++mL (vD l) (vN l)):=by
  rw[<-qon,hd,<-hg];apply Bj
  grind
 grind [vD,List.drop_drop,List.take_append_drop,qa3]
section
variable {l:LB} (h:(toE l).2=0)
include h
theorem qaib(hk:k<4):tw l k<=23:=by
 have H:=(qjz (qb6 h).1).2 k hk
 grind [tvF]
theorem qmv(hk:k<4):tNum l i k=tX l k (tUp l i (3-k)):=by
 grind [tNum,tX,qkn,qaib]
theorem qadw{e:Nat}(hk:k<4)(H:e<vNum l k):¬((k≠0/\tX l k e=0)\/4194304<tX l k e)/\(0<e->(k=0\/bitN ((qf l k).drop 8) (e-1)≠1)->tX l k (e-1)<tX l k e):=by
 have V:=(qkk ((qb6 h).2 k hk)).2.2.2 e H
 grind [qp0,qu0]
theorem qv7{i:Nat}(hi:i+1<vNum l 3):∀{j:Nat},j<=3->tUp l (i+1) j=tUp l i j\/tUp l (i+1) j=tUp l i j+1
 | 0,_=>.inr rfl
 | j+1,V=>by
  rcases qv7 hi (j:=j) Oo with g|g
  ·exact .inl (qkw g (Cq j))
  ·by_cases H:bitN ((qf l (3-j)).drop 8) (tUp l i j)=1
   ·exact .inr (qmw (qbq h) Oo Oo g H)
   ·exact .inl (qkv (qbq h) Oo Oo g H)
theorem qabz{i:Nat}(hi:i+1<vNum l 3):∀(d:Nat) {j:Nat},3-j=d->j<=3->tUp l (i+1) j=tUp l i j+1->∃k,k<=3-j/\tNum l (i+1) k≠tNum l i k
 | d,j,H,hj,g=>by
  have V:=qgs (qbq h) hi j hj;obtain⟨_,h2⟩:=qadw h (k:=3-j) (e:=tUp l (i+1) j) Oo V;have aa:(3-j=0\/bitN ((qf l (3-j)).drop 8) (tUp l i j)≠1)->∃k,k<=3-j/\tNum l (i+1) k≠tNum l i k:=λhb=>by
   have h3:=h2 Oo (by simp_all);refine⟨3-j,Ai _,?_⟩
   grind [qmv]
  by_cases h0:3-j=0
  ·simp_all
  ·by_cases hb:bitN ((qf l (3-j)).drop 8) (tUp l i j)=1
   ·have g2:=qmw (qbq h) (i:=i) Oo (show j<3 by omega) g hb;clear aa
    match d,H with
    | 0,H=>omega
    | d+1,H=>
     obtain⟨k,h4,h5⟩:=qabz hi d (j:=j+1) Oo Oo g2
     grind
   simp_all
theorem q8s(hi:i+1<vNum l 3)(hk:k<4):frU (tNum l) (i+1) k=true↔tUp l (i+1) (3-k)=tUp l i (3-k)+1:=by
 constructor
 ·grind [qv7,q3a,qmv,qkw]
 ·intro g;cases H:frU (tNum l) (i+1) k with
  | true=>rfl
  | false=>
   exfalso
   obtain⟨m,V,h2⟩:=qabz h hi _ rfl Oo g;have:=(qhm H).2 m Oo
   simp_all
theorem q4f{k:Nat}(hk:k<4):∀{i:Nat},i<vNum l 3->leT (tNum l) k (i+1)=tUp l i (3-k)+1
 | 0,_=>by rw[qat (qhn _ k),qqu];rfl
 | i+1,hi=>by
  have V:=q4f hk (i:=i) Oo;cases H:frU (tNum l) (i+1) k with
  | true=>rw[qat H,V,(q8s h hi hk).1 H]
  | false=>
   rw[qbm H,V]
   rcases qv7 h hi (j:=3-k) Oo with g|g
   ·rw[g]
   ·rw[(q8s h hi hk).2 g]at H;cases H
end
section
variable {l:LB} (h:(toE l).2=0)
include h
theorem q62(h0:0<vNum l 3):∀{j:Nat},j<=3->tUp l (vNum l 3-1) j+1=vNum l (3-j)
 | 0,_=>by show vNum l 3-1+1=vNum l 3;omega
 | j+1,hj=>by
  have ih:=q62 h0 (j:=j) Oo;have H:=qbq h (3-j) Oo Oo;have hl:=H.last Oo;have V:=H.vec.ones;rw[H.n,<-ih,cnt,show tUp l (vNum l 3-1) j=vNum l (3-j)-1 by omega,hl,H.m]at V;rw[tUp,H.rank _ Oo,show 3-(j+1)=3-j-1 by omega,<-V]
  congr 2;omega
theorem q9e(h0:vNum l 3=0):∀{k:Nat},k<4->vNum l k=0:=by
 have ht:=(qjz (qb6 h).1).1;have H:∀k,0<k->k<4->vNum l k=0->vNum l (k-1)=0:=λk hk V hz=>by
  have:=ht k V;rw[tcF]at this
  by_cases c1:(numE l k 1048576).2≠0
  case pos=>rw[Ab c1]at this;exact absurd this c1
  rw[Aa c1]at this
  by_cases c2:0<k/\(vNum l k<vNum l (k-1)\/¬(vNum l (k-1)=0↔vNum l k=0))
  case pos=>rw[Ab c2]at this;cases this
  exact Aw λg=>c2 ⟨hk,.inl Oo⟩
 have h2:=H 3 Od Od h0;have h1:=H 2 Od Od h2;have h3:=H 1 Od Od h1;intro k hk
 match k,hk with
 | 0,_=>exact h3
 | 1,_=>exact h1
 | 2,_=>exact h2
 | 3,_=>exact h0
theorem qlo(hk:k<4):leT (tNum l) k (vNum l 3)=vNum l k:=by
 by_cases H:vNum l 3=0
 ·rw[H,q9e h H hk];rfl
 ·have h1:=q62 h Oo (j:=3-k) Oo;have V:=q4f h hk (i:=vNum l 3-1) Oo;rw[CU Oo]at V;rw[V,h1,show 3-(3-k)=k by omega]
theorem q9d(hk:k<4):nuT (tNum l) k (vNum l 3)=unpN (qh l k) (vNum l k) (tw l k):=by
 have hn:=qlo h hk;apply Dm
 ·rw[show(nuT (tNum l) k (vNum l 3)).length=_ from hn];simp[unpN]
 ·intro e h1 h2;have H:e<leT (tNum l) k (vNum l 3):=h1;obtain⟨i,g1,g2,g3⟩:=qjm (tNum l) k H;have V:=qlw (Q:=tNum l) k (i:=i) (n:=vNum l 3) g1;have g5:=q4f h hk g1;rw[qat g2,g3,AX]at V;rw[qat g2,g3]at g5;rw[Ag,zge h1]at V;simp only[unpN,Cx,Dy];refine Eq.trans V ?_;rw[qmv h hk,show tUp l i (3-k)=e by omega];rfl
theorem qzi(hk:k+1<4):qcr (stT (tNum l) k (vNum l 3))=vD (qf l (k+1)):=by
 have hv:=qbq h (k+1) Oo Oo;have hn:=qlo h hk;have H:=(qkk ((qb6 h).2 (k+1) hk)).2.2.1.resolve_left Oo;have af:(voE (qf l (k+1))).2=0:=by
  rw[vcE,Aa (by rw[hv.tvec];decide)]at H;exact Aw λg=>by rw[Ab g]at H;exact g H
 have aa:=(qk5 af).1;have ad:(vD (qf l (k+1))).length=upN (vNum l (k+1)) 8:=by
  have ae:=hv.vec.ok;simp only[vOk,AF,decide_eq_true_eq]at ae;have he:qax (vN (qf l (k+1))) (vM (qf l (k+1)))=8+upN (vN (qf l (k+1))) 8+4*upN (vN (qf l (k+1))) 2048+2*upN (vN (qf l (k+1))) 256+4*upN (vM (qf l (k+1))) 512:=rfl;rw[vD,Ar,zld,ae.2,he,hv.n];omega
 have hS:(stT (tNum l) k (vNum l 3)).length=vNum l (k+1):=by rw[qb9,hn]
 refine qwx (by rw[qdm,hS,ad]) λt ht=>?_;rw[qdm,hS]at ht
 by_cases h1:t<vNum l (k+1)
 ·rw[qfg (by rw[hS];exact h1),laT,hS];have hb:bitN (vD (qf l (k+1))) t=bitN ((qf l (k+1)).drop 8) t:=qcz _ _ _ (by rw[hv.n];exact ht);rw[hb]
  by_cases h2:t+1=vNum l (k+1)
  ·rw[Ab h2];have ag:=hv.last Oo;have e:t=vNum l (k+1)-1:=by omega
   rw[e];exact ag.symm
  ·rw[Aa h2];obtain⟨i,g1,g2,g3⟩:=qjm (tNum l) (k+1) (e:=t+1) (n:=vNum l 3) (by rw[hn];omega);obtain⟨p,rfl⟩:∃p,i=p+1:=⟨i-1,by
    rcases Bk i with e|e
    ·rw[e]at g3;exact(BI t g3.symm).elim
    ·omega⟩
   have u1:=q4f h hk (i:=p) Oo;have u2:=q4f h hk (i:=p+1) g1;rw[qat g2,g3]at u2;rw[g3]at u1;rw[<-g3,q6f (tNum l) k g1 g2];have e1:tUp l p (3-(k+1))=t:=(Nat.add_right_cancel u1).symm;have e2:tUp l (p+1) (3-(k+1))=tUp l p (3-(k+1))+1:=by rw[e1];exact(Nat.add_right_cancel u2).symm
   have e3:3-(3-(k+1))=k+1:=by omega
   have e4:3-(k+1)+1=3-k:=by omega
   by_cases V:bitN ((qf l (k+1)).drop 8) t=1
   ·have:=qmw (qbq h) (i:=p) Oo (j:=3-(k+1)) Oo e2 (by rw[e3,e1];exact V);rw[e4]at this;rw[Ab ((q8s h g1 Oo).2 this),V]
   ·have:=qkv (qbq h) (i:=p) Oo (j:=3-(k+1)) Oo e2 (by rw[e3,e1];exact V);rw[e4]at this;have ah:=qc7 ((qf l (k+1)).drop 8) t;rw[Aa (λg=>by have g':=(q8s h g1 Oo).1 g;rw[this]at g';exact Nat.succ_ne_self _ g'.symm)];clear this e1 e2 u1 u2;omega
 ·have a1:bitN (qcr (stT (tNum l) k (vNum l 3))) t≠1:=λe=>qr8 (stT (tNum l) k (vNum l 3)) ⟨t,by omega,by rw[qdm,hS];exact ht,e⟩
  have a2:bitN (vD (qf l (k+1))) t≠1:=λe=>aa ⟨t,by rw[hv.n];omega,by rw[ad];exact ht,e⟩
  have:=qc7 (qcr (stT (tNum l) k (vNum l 3))) t;have:=qc7 (vD (qf l (k+1))) t;omega
end
theorem qnt(l:LB)(h:a<=b):l.drop a=(l.drop a).take (b-a)++l.drop b:=by
 grind [List.drop_drop,List.take_append_drop]
section
variable {l:LB} (h:(toE l).2=0)
include h
theorem qkm(hk:k<4):l.drop (tvAt l k)=lvB (tNum l) (vNum l 3) k++l.drop (tvAt l (k+1)):=by
 obtain⟨h1,h2,h3⟩:=qoh ((qjz (qb6 h).1).2 k hk);obtain⟨g1,g2,g3,_⟩:=qkk ((qb6 h).2 k hk);have hn:=qlo h hk;have ad:=q9d h hk;have ae:(unpN (qh l k) (vNum l k) (tw l k)).length=vNum l k:=by simp[unpN]
 have hw:wiT (nuT (tNum l) k (vNum l 3))=tw l k:=by grind [wiT]
 have aa:tEnd l k=tvAt l k+1+(vNum l k*tw l k+7)/8:=rfl;have af:tEnd l k<=l.length:=by grind [qbc]
 have ag:(qh l k).length=(vNum l k*tw l k+7)/8:=by grind [qh]
 have hp:qh l k=qed (nuT (tNum l) k (vNum l 3)) (tw l k):=by
  grind [qn5,qp3]
 have hb:UInt8.ofNat (tw l k)=l[tvAt l k]:=by
  grind [tw,q45]
 have r1:l.drop (tvAt l k)=UInt8.ofNat (tw l k)::(qh l k++l.drop (tEnd l k)):=by
  grind [qnt,List.drop_eq_getElem_cons,qh]
 have r2:l.drop (tEnd l k)=(if k=0 then[]else qa3 (qcr (stT (tNum l) (k-1) (vNum l 3))) (leT (tNum l) k (vNum l 3)))++l.drop (tvAt l (k+1)):=by
  by_cases e:k=0
  ·grind [qbc]
  ·rw[Aa e];obtain⟨m,rfl⟩:∃m,k=m+1:=⟨k-1,by omega⟩
   have hv:=qbq h (m+1) Oo Oo;have ah:=g3.resolve_left e;have H:(voE (qf l (m+1))).2=0:=by
    grind [vcE]
   have V:=q67 hv.vec.ok H;rw[<-qzi h hk,hv.n]at V
   grind [qnt,qbc,qf]
 grind [lvB]
theorem q1m:l=qz (tNum l) (vNum l 3):=by
 have ht:=qjz (qb6 h).1;have H:∀k,k<4->(numL (l.drop (vAt l k))).2.2=0:=λk hk=>Aw λg=>by
  grind [qbv,tcF]
 have r0:l=varL (vNum l 0)++l.drop (vAt l 1):=qev (k:=0) (H 0 Od);have r1:=qev (k:=1) (H 1 Od);have r2:=qev (k:=2) (H 2 Od);have r3:=qev (k:=3) (H 3 Od);have b0:l.drop (vAt l 4)=_:=qkm h (k:=0) Od;have b1:=qkm h (k:=1) Od;have b2:=qkm h (k:=2) Od;have b3:=qkm h (k:=3) Od;have b4:l.drop (tvAt l 4)=[]:=by
  have V:=(qb6 h).1;rw[tE]at V
  by_cases c1:(errF (tcF l) 4).2≠0
  case pos=>grind
  rw[Aa c1]at V
  by_cases c2:(errF (tvF l) 4).2≠0
  case pos=>grind
  rw[Aa c2]at V
  by_cases c3:tvAt l 4<l.length
  case pos=>grind
  exact List.drop_of_length_le Oo
 rw[b4,Bl]at b3;clear b4;rw[qz,qlo h (k:=0) Od,qlo h (k:=1) Od,qlo h (k:=2) Od,qlo h (k:=3) Od];have e:tlB (tNum l) (vNum l 3) 4=l.drop (vAt l 4):=by
  rw[b0,b1,b2,b3];simp[tlB]
 grind
end
theorem qabw{c:DE}(h:c≠0):(0:DE)<c:=by
 grind
theorem qafc{c d:DE}(h:c<d):d≠0:=λe=>by
 simp_all
theorem qx1(p:LB){a b:LB}(h:a<b):p++a<p++b:=by
 induction p<;>grind [List.cons_lt_cons_iff]
theorem q21:∀{a b:LB} (r s:LB),a<b->escL a++(0::0::r)<escL b++(0::0::s)
 | _,[],_,_,h=>absurd h (List.not_lt_nil _)
 | [],d::b,r,s,_=>by
  by_cases hd:d=0
  ·subst hd;rw[qau];exact AZ.2 (.inr ⟨rfl,AZ.2 (.inl Od)⟩)
  ·rw[qah _ hd];exact AZ.2 (.inl (qabw hd))
 | c::a,d::b,r,s,h=>by
  rcases AZ.1 h with H|⟨rfl,H⟩
  ·rw[qah _ (qafc H)]
   by_cases V:c=0
   ·subst V;rw[qau];exact AZ.2 (.inl H)
   ·rw[qah _ V];exact AZ.2 (.inl H)
  ·by_cases V:c=0
   ·subst V;rw[qau,qau];exact qx1 [0,1] (q21 r s H)
   ·rw[qah _ V,qah _ V];exact qx1 [c] (q21 r s H)
theorem qabu:∀{a b:LB} (r s:LB),(∀c∈b,c≠0)->a<b->a++(0::r)<b++(0::s)
 | _,[],_,_,_,h=>absurd h (List.not_lt_nil _)
 | [],d::b,r,s,H,_=>AZ.2 (.inl (qabw (H d mh)))
 | c::a,d::b,r,s,H,h=>by
  rcases AZ.1 h with V|⟨rfl,V⟩
  ·exact AZ.2 (.inl V)
  ·exact qx1 [c] (qabu r s (λx hx=>H x (zmc hx)) V)
theorem qo5{a b:TM}(V:qam a=0)(hb:qam b=0)(hk:a.kind=b.kind)(h:LtT a b):qai a<qai b:=by
 have h:slt a.text b.text=true\/(a.text=b.text/\(slt a.type b.type=true\/(a.type=b.type/\slt a.lang b.lang=true))):=by
  rcases h with g|⟨_,g⟩
  all_goals omega
 simp only[qe0]at h
 by_cases h3:b.kind=3
 ·have H:ReadsAs 3 (qai a) a:=⟨by omega,V,rfl⟩
  have rb:ReadsAs 3 (qai b) b:=⟨h3,hb,rfl⟩
  obtain⟨ea,_⟩:=H.lit;obtain⟨eb,hz⟩:=rb.lit
  grind [q21,qx1,qabu]
 ·have H:ReadsAs a.kind (qai a) a:=⟨rfl,V,rfl⟩
  have rb:ReadsAs b.kind (qai b) b:=⟨rfl,hb,rfl⟩
  obtain⟨a1,a2,a3⟩:=H.plain Oo;obtain⟨b1,b2,b3⟩:=rb.plain h3
  simp_all
theorem qagk{a b:LB}(h:a<b):leL b a=false:=by
 grind [leL,qe0,qab]
section
variable {l:LB} (h:(toE l).2=0)
include h
theorem qw4{i:Nat}(hi:i+1<vNum l 3):∀(d:Nat) {j:Nat},3-j=d->j<=3->tUp l (i+1) j=tUp l i j+1->∃k,k<4/\(∀m,m<k->tNum l (i+1) m=tNum l i m)/\tNum l i k<tNum l (i+1) k
 | d,j,H,hj,g=>by
  have V:=qgs (qbq h) hi j hj;obtain⟨_,h2⟩:=qadw h (k:=3-j) (e:=tUp l (i+1) j) Oo V;have aa:(3-j=0\/bitN ((qf l (3-j)).drop 8) (tUp l i j)≠1)->∃k,k<4/\(∀m,m<k->tNum l (i+1) m=tNum l i m)/\tNum l i k<tNum l (i+1) k:=λhb=>by
   have h3:=h2 Oo (by simp_all);refine⟨3-j,by omega,λm hm=>?_,?_⟩
   ·have g2:=qkv (qbq h) (i:=i) Oo (show j<3 by omega) g (hb.resolve_left Oo)
    grind [qkw,tNum]
   grind [qmv]
  by_cases h0:3-j=0
  ·simp_all
  ·by_cases hb:bitN ((qf l (3-j)).drop 8) (tUp l i j)=1
   ·have g2:=qmw (qbq h) (i:=i) Oo (show j<3 by omega) g hb;clear aa
    match d,H with
    | 0,H=>omega
    | d+1,H=>exact qw4 hi d (j:=j+1) Oo Oo g2
   simp_all
theorem qov:TOk (tNum l) (vNum l 3):=by
 refine⟨?_,λi k hi hk=>?_,λi H hi=>?_⟩
 ·have V:=(qjz (qb6 h).1).1 3 Od
  grind [numE,tcF]
 ·have h2:=qgs (qbq h) hi (3-k) Oo;obtain⟨h1,_⟩:=qadw h hk (e:=tUp l i (3-k)) (by grind)
  grind [qmv]
 ·obtain⟨i,rfl⟩:∃m,i=m+1:=⟨i-1,by omega⟩
  exact qw4 h hi 3 (j:=0) rfl Oo rfl
end
section
variable {Q R:Nat->Nat->Nat} {n:Nat} (h:∀i k,i<n->k<4->Q i k=R i k)
include h
theorem qpg{i:Nat}(hi:i<n):∀{k:Nat},k<4->frU Q i k=frU R i k
 | 0,hk=>by rw[frU,frU,h i 0 hi hk,h (i-1) 0 Oo hk]
 | k+1,hk=>by rw[frU,frU,qpg hi (k:=k) Oo,h i (k+1) hi hk,h (i-1) (k+1) Oo hk]
theorem qu2{k:Nat}(hk:k<4):∀{i:Nat},i<=n->nuT Q k i=nuT R k i
 | 0,_=>rfl
 | i+1,hi=>by rw[nuT,nuT,qpg h (i:=i) Oo hk,h i k Oo hk,qu2 hk (i:=i) Oo]
theorem q6g{k:Nat}(hk:k+1<4):∀{i:Nat},i<=n->stT Q k i=stT R k i
 | 0,_=>rfl
 | i+1,hi=>by rw[stT,stT,qpg h (i:=i) Oo hk,qpg h (i:=i) (k:=k) Oo Oo,q6g hk (i:=i) Oo]
theorem q4d(hk:k<4):leT Q k n=leT R k n:=by rw[leT,leT,qu2 h hk znr]
theorem qadj(hk:k<4):lvB Q n k=lvB R n k:=by
 rw[lvB,lvB,qu2 h hk znr,q4d h hk]
 by_cases e:k=0
 ·simp_all
 ·rw[Aa e,Aa e,q6g h Oo znr]
theorem q6r:qz Q n=qz R n:=by
 grind [qz,q4d,tlB,qadj]
end
noncomputable def sTm(l:LB)(k:Nat):List TM:=(txsD (sDict l k)).map λs=>(qg5 ((k+1:Nat):Int) s).getD zTM
noncomputable def vTms(l:LB):List TM:=sTm l 0++(sTm l 1++sTm l 2)
theorem qiv{α:Type}{p:α->Bool}{l:List α}(h:∀x∈l,p x=true):l.filter p=l:=List.filter_eq_self.2 h
theorem qcq{α:Type}{p:α->Bool}{l:List α}(h:∀x∈l,p x=false):l.filter p=[]:=List.filter_eq_nil_iff.2 λx H=>by simp_all
theorem qez(l:LB)(k:Nat):(sTm l k).length=dN (sDict l k):=by grind [sTm,qdf]
theorem qih(l:LB):(vTms l).length=vTot l 3:=by
 have e:vTot l 3=0+dN (sDict l 0)+dN (sDict l 1)+dN (sDict l 2):=rfl;rw[vTms,zla,zla,qez,qez,qez,e];omega
section
variable {l:LB} (h:(vwE l).2=0)
include h
theorem qg7(hk:k<3)(V:j<dN (sDict l k)):dGet (sDict l k) j=some (tx (txsD (sDict l k)) j):=by
 have H:=(qe2 h).2.1 k hk;obtain⟨_,_,h3,_⟩:=qb4 H
 grind [qgx,qv6]
theorem q52(hk:k<3)(H:j<dN (sDict l k)):∃t,ReadsAs ((k+1:Nat):Int) (tx (txsD (sDict l k)) j) t:=by
 have V:=qafg ((qe2 h).2.2 k hk) H;refine Aw λg=>V ⟨_,qg7 h hk H,λt ht=>g ⟨t,ht⟩⟩
theorem qte(hk:k<3)(H:j<dN (sDict l k)):∃t,ReadsAs ((k+1:Nat):Int) (tx (txsD (sDict l k)) j) t/\(sTm l k)[j]?=some t:=by
 grind [q52,txsD,tx,sTm,qee]
theorem qag3(hk:k<3){t:TM}(H:t∈sTm l k):∃j,j<dN (sDict l k)/\(sTm l k)[j]?=some t/\ReadsAs ((k+1:Nat):Int) (tx (txsD (sDict l k)) j) t:=by
 grind [List.mem_iff_getElem?,qez,qte]
theorem qkt(hk:k<3){t:TM}(V:t∈sTm l k):t.kind=((k+1:Nat):Int)/\qam t=0:=by
 obtain⟨_,_,_,H⟩:=qag3 h hk V;exact⟨H.kind,H.ok⟩
theorem qaew(hk:k<3):(sTm l k).map qai=txsD (sDict l k):=by
 apply Bj;intro j;rw[Ao]
 by_cases H:j<dN (sDict l k)
 ·obtain⟨t,V,h2⟩:=qte h hk H;have hl:j<(txsD (sDict l k)).length:=by rw[qdf];exact H
  rw[h2,Be,V.entry,tx,Ag,zge hl];rfl
 grind [qez,qdf]
theorem qqj(hk:k<3):RiseT (sTm l k):=by
 refine BJ.2 λi j hi V aa=>?_;rw[qez]at hi V;obtain⟨t,h1,h2⟩:=qte h hk hi;obtain⟨u,g1,g2⟩:=qte h hk V;have et:=(Ae.1 h2).2;have eu:=(Ae.1 g2).2;rw[et,eu];obtain⟨d,rfl⟩:∃d,j=i+1+d:=⟨j-(i+1),by omega⟩
 have H:=qo1 ((qe2 h).2.1 k hk) V (qg7 h hk hi) (qg7 h hk V);rw[<-h1.entry,<-g1.entry]at H
 rcases LtT.tri t u with a|a|a
 ·exact a
 ·grind
 ·exact absurd (List.lt_trans H (qo5 g1.ok h1.ok (by rw[h1.kind,g1.kind]) a)) (List.lt_irrefl _)
theorem qaai{t:TM}:t∈vTms l↔∃k,k<3/\t∈sTm l k:=by
 have H:=h;rw[vTms,AU,AU]
 grind
theorem qf2{t:TM}(H:t∈vTms l):1<=t.kind/\t.kind<=3/\qam t=0:=by
 grind [qaai,qkt]
theorem qm1:RiseT (vTms l):=by
 have H:∀{i j:Nat},i<3->j<3->i<j->∀a∈sTm l i,∀b∈sTm l j,LtT a b:=λhi hj V a ha b hb=>.inl (by grind [qkt])
 refine Ce.2 ⟨qqj h Od,Ce.2 ⟨qqj h Od,qqj h Od,H Od Od Od⟩,λa ha b hb=>?_⟩
 grind
theorem qaaj(hk:k<3):ofK (vTms l) k=sTm l k:=by
 have V:∀t∈sTm l k,decide (t.kind=((k+1:Nat):Int))=true:=λt ht=>At (qkt h hk ht).1
 have H:∀j,j<3->j≠k->∀t∈sTm l j,decide (t.kind=((k+1:Nat):Int))=false:=λj hj aa t ht=>Ax (by grind [qkt])
 rw[ofK,vTms,CW,CW]
 match k,hk with
 | 0,_=>rw[qiv V,qcq (H 1 Od Od),qcq (H 2 Od Od),Bl,Bl]
 | 1,_=>rw[qiv V,qcq (H 0 Od Od),qcq (H 2 Od Od),Bl,Bi]
 | 2,_=>rw[qiv V,qcq (H 0 Od Od),qcq (H 1 Od Od),Bi,Bi]
theorem qy7(hk:k<3):secE (vTms l) k=txsD (sDict l k):=by rw[qcx,qaaj h hk,qaew h hk]
theorem qq1:vocB (vTms l)=l:=by
 grind [vocB,qy7,q1o]
theorem qtz(V:id≠0)(h1:id<=vTot l 3):qce l id=(vTms l)[id-1]?:=by
 obtain⟨p1,p2,p3⟩:=qq0 V h1;have h4:vTot l (qb2 l id+1)=vTot l (qb2 l id)+dN (sDict l (qb2 l id)):=rfl;have H:id-(vTot l (qb2 l id)+1)<dN (sDict l (qb2 l id)):=by omega
 obtain⟨t,g1,g2⟩:=qte h p1 H;rw[qce,Aa V,Aa Oo,qg7 h p1 H];dsimp only;rw[qee g1,<-g2];have t0:vTot l 0=0:=rfl;have t1:vTot l 1=(sTm l 0).length:=by rw[qez];exact As _
 have t2:vTot l 2=vTot l 1+(sTm l 1).length:=by rw[qez];rfl
 have hp:qb2 l id=0\/qb2 l id=1\/qb2 l id=2:=by omega
 rcases hp with e|e|e<;>rw[e]at p2 p3 H|-
 ·simp_all[vTms,AS]
 ·rw[<-qez]at H;rw[vTms,AV Oo,AS Oo];grind
 ·rw[vTms,AV Oo,AV Oo];grind
theorem qacm(hk:k<3):DOk (txsD (sDict l k)):=by
 have V:=(qe2 h).2.1 k hk;have hE:=(qb4 V).1;have e2:(errF (dhF (sDict l k)) 2).2=0:=Aw λg=>by grind [dE]
 have H:=qas e2;have n0:(numL ((sDict l k).drop (vAt (sDict l k) 0))).2.2=0:=Aw λg=>by
  have:=H 0 Oo
  grind [dhF,qbv]
 have n1:(numL ((sDict l k).drop (vAt (sDict l k) 1))).2.2=0:=Aw λg=>by
  have:=H 1 Oo
  grind [dhF,qbv]
 have m0:=qu3 n0 (H 0 Oo);have m1:=qu3 n1 (H 1 Oo);rw[Ab rfl]at m0;rw[Aa Od]at m1;refine⟨by rw[qdf];exact m0,λi=>?_,λi hi=>?_,?_⟩
 ·by_cases hi:i<dN (sDict l k)
  ·exact qkh (qg7 h hk hi)
  grind [tx,qdf]
 ·rw[qdf]at hi;exact qagk (qld V (j:=i+1) Oo hi (by grind [qg7]) (qg7 h hk hi))
 grind [qwt,dE,dEnd,qdc,qe]
end
theorem LtQ.trans{a b c:Q4}(h:LtQ a b)(g:LtQ b c):LtQ a c:=by
 obtain⟨k,h1,V,h3⟩:=h;obtain⟨m,g1,g2,g3⟩:=g
 rcases Cr k m with e|e|e
 ·exact⟨k,h1,λj H=>(V j H).trans (g2 j Oo),by rw[<-g2 k e];exact h3⟩
 ·subst e;exact⟨k,h1,λj H=>(V j H).trans (g2 j H),h3.trans g3⟩
 ·exact⟨m,g1,λj H=>(V j Oo).trans (g2 j H),by rw[V m e];exact g3⟩
theorem q5d{α:Type}{R:α->α->Prop}(ht:∀a b c,R a b->R b c->R a c){l:List α}(h:∀i a b,l[i]?=some a->l[i+1]?=some b->R a b):l.Pairwise R:=by
 refine BJ.2 λi j hi V H=>?_;obtain⟨d,rfl⟩:∃d,j=i+1+d:=⟨j-(i+1),by omega⟩
 clear H
 induction d with
 | zero=>exact h i _ _ (zge hi) (zge V)
 | succ d ih=>exact ht _ _ _ (ih Oo) (h (i+1+d) _ _ (zge Oo) (zge V))
noncomputable def qsP(l:LB):List Q4:=(List.range (vNum (qk l) 3)).map λi=>q4Of (qi l) (tNum (qk l) i)
theorem q5i(hi:i<vNum (qk l) 3):(qsP l)[i]?=some (q4Of (qi l) (tNum (qk l) i)):=by simp_all[qsP]
theorem ql5(l:LB):(qsP l).length=vNum (qk l) 3:=by simp[qsP]
theorem qabq{q:Q4}(h:q∈qsP l):∃i,i<vNum (qk l) 3/\q=q4Of (qi l) (tNum (qk l) i):=by
 grind [qsP]
theorem qaa4(v:LB)(q:Nat->Nat)(hk:k<4):gat (q4Of v q) k=uT v q k:=
 match k,hk with
 | 0,_=>rfl
 | 1,_=>rfl
 | 2,_=>rfl
 | 3,_=>rfl
theorem qnw(h:(qt l).2=0):28<=l.length/\hN l 0=1095914324/\hN l 6=(crcL (l.take 24)).toNat/\hN l 1=1/\hN l 4+hN l 5+36<=67108864/\l.length=hN l 4+hN l 5+36:=by
 rw[qt]at h
 by_cases H:l.length<28
 case pos=>simp_all
 rw[Aa H]at h
 by_cases V:hN l 0≠1095914324
 all_goals grind
theorem qcg{n:Nat}(H:a+4<=l.length)(h:leN ((l.drop a).take 4)=n):l.drop a=fixL n 4++l.drop (a+4):=by
 grind [qxy,qrx,List.drop_drop,List.take_append_drop]
theorem qu5(H:(qt l).2=0)(V:pS1 l)(h2:pS2 l):l=qdz (hN l 2) (hN l 3) (qi l) (qk l):=by
 obtain⟨g1,g2,g3,g4,g5,g6⟩:=qnw H;have lv:(qi l).length=hN l 4:=by grind [qi]
 have lt:(qk l).length=hN l 5:=by grind [qk]
 have r0:l=fixL 1095914324 4++l.drop 4:=qcg (a:=0) Oo g2;have r1:l.drop 4=fixL 1 4++l.drop 8:=qcg (a:=4) Oo g4;have r2:l.drop 8=fixL (hN l 2) 4++l.drop 12:=qcg (a:=8) Oo rfl;have r3:l.drop 12=fixL (hN l 3) 4++l.drop 16:=qcg (a:=12) Oo rfl;have r4:l.drop 16=fixL (hN l 4) 4++l.drop 20:=qcg (a:=16) Oo rfl;have r5:l.drop 20=fixL (hN l 5) 4++l.drop 24:=qcg (a:=20) Oo rfl;have r6:l.drop 24=fixL (crcL (l.take 24)).toNat 4++l.drop 28:=qcg (a:=24) Oo g3;have r7:l.drop 28=qi l++l.drop (28+hN l 4):=by rw[qi,<-Am,AM]
 have r8:l.drop (28+hN l 4)=fixL (crcL (qi l)).toNat 4++l.drop (28+hN l 4+4):=qcg Oo V.symm;have r9:l.drop (28+hN l 4+4)=qk l++l.drop (32+hN l 4+hN l 5):=by
  grind [qk,List.drop_drop,List.take_append_drop]
 have aa:l.drop (32+hN l 4+hN l 5)=fixL (crcL (qk l)).toNat 4:=by
  have:=qcg (l:=l) (a:=32+hN l 4+hN l 5) Oo h2.symm
  grind
 have ad:l.take 24=h24 (hN l 2) (hN l 3) (hN l 4) (hN l 5):=by
  have e:l=h24 (hN l 2) (hN l 3) (hN l 4) (hN l 5)++l.drop 24:=by
   grind [h24]
  grind [qpi]
 grind [qdz,sumL,List.take_append_drop]
section
variable {l:LB} (h:(poE l).2=0)
include h
theorem qaat(hi:i<vNum (qk l) 3)(hk:k<4):(k≠0->1<=tNum (qk l) i k)/\tNum (qk l) i k<=vTot (qi l) 3/\qce (qi l) (tNum (qk l) i k)=some (gat (q4Of (qi l) (tNum (qk l) i)) k):=by
 obtain⟨_,_,_,_,H,_,_,V,_⟩:=qci h;obtain⟨h9,_⟩:=V i hi;have aa:=h9 k hk;refine⟨((qov H).num i k hi hk).1,?_,?_⟩
 ·grind [qce]
 ·rw[qaa4 _ _ hk,uT];cases e:qce (qi l) (tNum (qk l) i k)<;>grind
theorem q2a(hi:i<vNum (qk l) 3)(hk:k<4):(tNum (qk l) i k=0/\gat (q4Of (qi l) (tNum (qk l) i)) k=zTM)\/(tNum (qk l) i k≠0/\(vTms (qi l))[tNum (qk l) i k-1]?=some (gat (q4Of (qi l) (tNum (qk l) i)) k)):=by
 obtain⟨_,H,V⟩:=qaat h hi hk;obtain⟨_,_,_,h4,_⟩:=qci h
 grind [qce,zTM,qtz]
theorem qacn:(vTms (qi l)).length<=4194304:=by
 obtain⟨_,_,_,_,H,_,_,_,V⟩:=qci h;rw[qih];refine Aw λg=>?_;obtain⟨i,h1,j,h2,h3⟩:=V (vTot (qi l) 3) Oo znr;have:=((qov H).num i j h1 h2).2;omega
theorem q72(hi:i+1<vNum (qk l) 3):LtQ (q4Of (qi l) (tNum (qk l) i)) (q4Of (qi l) (tNum (qk l) (i+1))):=by
 obtain⟨_,_,_,h4,h5,_⟩:=qci h;obtain⟨k,H,h2,h3⟩:=(qov h5).rise (i+1) Oo hi;rw[AX]at h2 h3;refine⟨k,H,λj hj=>?_,?_⟩
 ·grind [qaa4,uT]
 ·rcases q2a h (i:=i) Oo H with⟨a1,V⟩|⟨a1,V⟩<;>rcases q2a h hi H with⟨b1,b2⟩|⟨b1,b2⟩
  ·omega
  ·rw[V];have:=qf2 h4 (zmg b2);exact .inl (by show(0:Int)<_;omega)
  ·omega
  ·exact(qm1 h4).at Oo V b2
theorem qaco:SetOk (vTms (qi l)) (qsP l):=by
 obtain⟨_,_,_,V,h5,_⟩:=qci h;refine⟨qm1 V,qacn h,λt ht=>by have:=qf2 V ht;omega,λq hq k hk=>?_,by rw[ql5];exact(qov h5).nle,?_⟩
 ·obtain⟨i,hi,rfl⟩:=qabq hq
  rcases q2a h hi hk with⟨a1,H⟩|⟨a1,H⟩
  ·refine .inr ⟨?_,by rw[H];rfl,H⟩
   grind [qaat]
  grind
 grind [q5d,LtQ.trans,ql5,q5i,q72]
theorem qafx(hi:i<vNum (qk l) 3)(hk:k<4):noQ (vTms (qi l)) (qsP l) i k=tNum (qk l) i k:=by
 obtain⟨_,_,_,V,_⟩:=qci h;rw[qjt (q5i hi)]
 rcases q2a h hi hk with⟨a1,H⟩|⟨a1,H⟩
 ·rw[H,a1];rfl
 ·rw[qgl (qm1 V) H (by have:=qf2 V (zmg H);omega)];omega
theorem qw5:qz (noQ (vTms (qi l)) (qsP l)) (qsP l).length=qk l:=by
 obtain⟨_,_,_,_,H,_⟩:=qci h;rw[ql5,q6r λi k hi hk=>qafx h hi hk]
 grind [q1m]
theorem qrf:l=encP (vTms (qi l)) (qsP l):=by
 obtain⟨H,V,h3,h4,h5,h6,h7,_⟩:=qci h
 grind [encP,qq1,qw5,qih,ql5,qu5]
theorem q2b:EncOk (vTms (qi l)) (qsP l):=by
 obtain⟨h1,h2,h3,V,h5,h6,h7,h8,h9⟩:=qci h;obtain⟨g1,_,_,_,g5,g6⟩:=qnw h1;have lv:(qi l).length=hN l 4:=by grind [qi]
 have lt:(qk l).length=hN l 5:=by grind [qk]
 refine⟨qaco h,⟨λk hk=>by grind [qy7,qacm],?_⟩,λt H=>(qf2 V H).2.1,λt H=>(qf2 V H).2.2,λq hq=>?_,λt H=>?_,?_⟩
 ·grind [qq1,vocB,jo3]
 ·obtain⟨i,hi,rfl⟩:=qabq hq;exact(h8 i hi).2
 ·obtain⟨j,hj⟩:=AT.1 H;have hl:=(Ae.1 hj).1;rw[qih]at hl;obtain⟨i,a1,k,a2,a3⟩:=h9 (j+1) Oo Oo;refine⟨_,zmg (q5i a1),k,a2,?_⟩
  grind [q2a]
 grind [qq1,qw5]
end
def cmpQ(a b:Q4):Int:=if cmpT a.g b.g≠0 then cmpT a.g b.g else if cmpT a.s b.s≠0 then cmpT a.s b.s else if cmpT a.p b.p≠0 then cmpT a.p b.p else cmpT a.o b.o
theorem qfb{a b:Q4}:cmpQ a b<0↔LtQ a b:=by
 unfold cmpQ
 constructor
 ·intro h
  by_cases h0:cmpT a.g b.g≠0
  ·rw[Ab h0]at h;exact⟨0,by decide,λj hj=>absurd hj (BW _),qay.1 h⟩
  rw[Aa h0]at h;have e0:=qar.1 (Dd.1 h0)
  by_cases H:cmpT a.s b.s≠0
  ·rw[Ab H]at h;exact⟨1,by decide,λj hj=>by obtain rfl:j=0:=(by omega);exact e0,qay.1 h⟩
  rw[Aa H]at h;have e1:=qar.1 (Dd.1 H)
  by_cases V:cmpT a.p b.p≠0
  ·rw[Ab V]at h;refine⟨2,by decide,λj hj=>?_,qay.1 h⟩
   rcases(show j=0\/j=1 by omega)with rfl|rfl
   ·exact e0
   ·exact e1
  rw[Aa V]at h;have e2:=qar.1 (Dd.1 V);refine⟨3,by decide,λj hj=>?_,qay.1 h⟩
  rcases(show j=0\/j=1\/j=2 by omega)with rfl|rfl|rfl
  ·exact e0
  ·exact e1
  ·exact e2
 ·rintro⟨k,hk,H,V⟩
  match k,hk with
  | 0,_=>
   have:=qay.2 V;have g:cmpT a.g b.g<0:=this;omega
  | 1,_=>
   have g:cmpT a.s b.s<0:=qay.2 V;rw[Aa (λx=>x (qar.2 (H 0 Od))),Ab Oo];exact g
  | 2,_=>
   have g:cmpT a.p b.p<0:=qay.2 V;rw[Aa (λx=>x (qar.2 (H 0 Od))),Aa (λx=>x (qar.2 (H 1 Od))),Ab Oo];exact g
  | 3,_=>
   have g:cmpT a.o b.o<0:=qay.2 V;rw[Aa (λx=>x (qar.2 (H 0 Od))),Aa (λx=>x (qar.2 (H 1 Od))),Aa (λx=>x (qar.2 (H 2 Od)))];exact g
def qahr(qs:List Q4)(n:Nat):Prop:=∀i,i+1<n->∀a b,qs[i]?=some a->qs[i+1]?=some b->LtQ a b
open Classical in
noncomputable def valE(qs:List Q4):Nat:=if 1048576<qs.length then 2 else if qgi (qs.map qdd)≠0 then qgi (qs.map qdd)else if qahr qs qs.length then 0 else 6
theorem q1i{t:TM}(h:qam t=0):1<=t.kind/\t.kind<=3:=by
 grind [qam]
section
variable {qs:List Q4} (h:valE qs=0)
include h
end
set_option maxHeartbeats 8000000
set_option maxRecDepth 100000
theorem qvy(g:FuncId)(c1 c2:DF)(n:Nat)(p:Nat->Bool)(w:DA)(hn:n<=4194304)(hp:∀i j,i<=j->p i=true->p j=true)(hg:∀i w',i<n->Ext w w'->Gv DM g [ii i,c1,c2] w' λr ae=>r=.bool (p i)/\Ext w' ae):
  Gv DM 208 [ii n,.func (.func g) #[] #[c1,c2]] w λr w'=>∃k:Nat,r=ii k/\k<=n/\(∀i,i<k->p i=false)/\(∀i,k<=i->i<n->p i=true)/\Ext w w':=by
 refine ze Tryz.func208 Tryz.ntmps208 ?_;refine qq (λs:Nat×Nat=>[(1,.func (.func g) #[] #[c1,c2]),(5,ii s.1),(6,ii s.2)])
  (λs w'=>s.1<=s.2/\s.2<=n/\(∀i,i<s.1->p i=false)/\(∀i,s.2<=i->i<n->p i=true)/\Ext w w') (λs=>s.2-s.1) (0,n) fq ⟨Af _,Ai _,λi h=>by omega,λi h1 h2=>by omega,xr⟩ ?_
 rintro⟨a,b⟩ w1 ag ⟨h1,h2,h3,h4,H⟩;dsimp only at h1 h2 h3 h4|-;(conv=>whnf);refine zC (λ_=>zu ?_) (λ_=>zu ?_)
 ·obtain⟨h,eh⟩:∃h,h=(a+b)/2:=⟨_,rfl⟩
  rw[<-Int.natCast_add];refine V.Wit.shrN 1 rfl Od ?_;rw[Nat.pow_one,<-eh];refine zu ?_;refine zcv (hg h w1 Oo H) ?_;rintro r w2 ⟨rfl,af⟩;have H:=H.trans af;cases aa:p h
  ·refine zu ?_;refine⟨(h+1,b),fq,⟨by show h+1<=b;omega,h2,λi hi=>?_,h4,H⟩,by show b-(h+1)<b-a;omega⟩
   by_cases ad:p i=true
   ·have:=hp i h (by show i<=h;have hi:i<h+1:=hi;omega) ad;rw[aa]at this;cases this
   ·simpa using ad
  ·refine zu ?_;refine⟨(a,h),fq,⟨by show a<=h;omega,by show h<=n;omega,h3,λi hi _=>hp h i hi aa,H⟩,by show h-a<b-a;omega⟩
 ·obtain rfl:a=b:=by omega
  exact⟨a,rfl,h2,h3,h4,H⟩
def ltx(L:List LB)(i:Nat)(s:DB):Bool:=slt ⟨(tx L i).toArray⟩ s
theorem DOk.up{L:List LB}(h:DOk L)(aa:i<j)(hj:j<L.length):slt ⟨(tx L i).toArray⟩ ⟨(tx L j).toArray⟩=true:=by
 induction j with
 | zero=>omega
 | succ j ih=>
  have V:slt ⟨(tx L j).toArray⟩ ⟨(tx L (j+1)).toArray⟩=true:=by
   have H:=h.rise j hj;simp only[leL,Dq]at H
   rcases qqm ⟨(tx L j).toArray⟩ ⟨(tx L (j+1)).toArray⟩with g|g|g
   ·exact g
   ·rw[g]at H;have:=H.2;simp[seq]at this
   ·rw[g]at H;exact absurd H.1 Od
  by_cases e:i=j
  ·subst e;exact V
  ·exact qmo (ih Oo Oo) V
theorem DOk.ltx_up{L:List LB}(h:DOk L){s:DB}(V:i<=j)(hj:j<L.length)(H:ltx L j s=true):ltx L i s=true:=by
 by_cases e:i=j
 ·subst e;exact H
 ·exact qmo (h.up Oo hj) H
theorem qrv(b:Nat)(t s:DB)(w:DA)(H:w.cell? ⟨b,0,none⟩=some (.string s)):
  Gv DM 248 [.string t,pp b] w λr w'=>r=.bool (slt t s)/\Ext w w':=by
 refine ze Tryz.func248 Tryz.ntmps248 ?_;refine LoadV.of H (zw ?_);exact⟨rfl,xr⟩
theorem qze(L:List LB)(hL:DOk L)(b b2 b3 sb i:Nat)(s:DB)(w:DA)(hD:DictAt w b (q8 L))(hi:i<upN L.length 16)(h2:w.cell? ⟨b2,0,none⟩=some (pp b))(h3:w.cell? ⟨b3,0,none⟩=some (.func (.func 248) #[] #[pp sb]))(hs:w.cell? ⟨sb,0,none⟩=some (.string s)):
  Gv DM 321 [ii i,pp b2,pp b3] w λr w'=>r=.bool (!ltx L (16*i) s)/\Ext w w':=by
 have V:16*i<L.length:=by unfold upN at hi;omega
 have hn:=hL.n;have ae:=qrn hD i;have hx:qc1 (qe (q8 L)) (q5 (q8 L) i) true []=blk (qe (q8 L)) (q5 (q8 L) i) 0:=rfl;have hg:=qua (m:=q8 L) (by rw[hL.eoE]) (i:=16*i) (by rw[hL.eN];exact V);rw[hL.eGet V,dTxt,show 16*i/16=i by omega,show 16*i%16=0 by omega]at hg;obtain⟨q1,q2⟩:=hg;have q2:=AR q2;obtain⟨x,ex⟩:∃x,x=blk (qe (q8 L)) (q5 (q8 L) i) 0:=⟨_,rfl⟩
 rw[<-ex]at q1 q2 hx;obtain⟨P,cp,E',ce,af,_,_,_⟩:=id hD.1;refine ze Tryz.func321 Tryz.ntmps321 ?_;refine DrawV.free Jk Jk (zw ?_);apply zsd
 ·intro wd hd;(conv=>whnf);refine LoadV.of (((Ext.refl w).drew.trans hd).cell h2) (zw ?_);exact xq
 (conv=>whnf);apply zsd
 ·intro wd hd;(conv=>whnf);refine LoadV.of (((Ext.refl w).drew.trans hd).cell h2) (zw ?_);exact xq
 (conv=>whnf);refine zd ?_;apply zsd
 ·intro wd hd;(conv=>whnf);refine zcv (qsm b (q8 L) i wd (hD.ext ((Ext.refl w).drew.trans hd)) (by rw[hL.eN];exact hi)) ?_;rintro v w' ⟨rfl,rfl⟩;exact xq
 (conv=>whnf);apply zsd
 ·intro wd hd;(conv=>whnf);refine zcv (qrq b (q8 L) (q5 (q8 L) i) true ⟨#[]⟩ wd (hD.ext ((Ext.refl w).drew.trans hd)) Oo Od) ?_;rintro v w' ⟨rfl,he⟩;exact⟨he,rfl⟩
 (conv=>whnf);have aa:qc1 (qe (q8 L)) (q5 (q8 L) i) true (⟨#[]⟩:DB).data.toList=x:=hx;rw[aa];clear hx aa ex;obtain⟨x1,x2,x3⟩:=x;dsimp only at q1 q2;subst q1 q2;(iterate 7 (refine zd ?_));intro w2 H;have H:=(Ext.refl w).drew.trans H;(conv=>whnf);refine zC (λ_=>zu ?_) (λ_=>zu ?_)
 ·rename_i hx
  exact absurd rfl hx
 refine LoadV.of (H.cell h3) (zu ?_);refine zcv (qrv sb ⟨(tx L (16*i)).toArray⟩ s w2 (H.cell hs)) ?_;rintro r w3 ⟨rfl,ad⟩;refine zu ?_;exact⟨rfl,H.trans ad⟩
structure AhN(L:List LB)(s:DB)(N:Nat):Prop where
 le:N<=L.length
 lt:∀i,i<N->ltx L i s=true
 ge:N<L.length->ltx L N s=false
theorem DOk.txt{L:List LB}(h:DOk L)(hi:i<L.length):dTxt (q8 L) i=tx L i:=by
 have H:=(qua (m:=q8 L) (by rw[h.eoE]) (i:=i) (by rw[h.eN];exact hi)).2;rw[h.eGet hi]at H;exact(AR H).symm
theorem q15(b k:Nat)(w:DA):Gv DM 324 [pp b,ii k] w λr w'=>
  ∃b1 b2,r=.func (.func 370) #[] #[pp b1,pp b2]/\Mem w w' [(b2,.cells #[ii k] 3),(b1,.cells #[pp b] 300)]:=by
 refine ze Tryz.func324 Tryz.ntmps324 ?_;refine znm (Mem.nil w) ?_;intro b1 w1 H;refine znm H λb2 w2 H=>zw ?_;exact⟨b1,b2,rfl,H⟩
theorem q1v(L:List LB)(hL:DOk L)(b sb:Nat)(s:DB)(w:DA)(hD:DictAt w b (q8 L))(hs:w.cell? ⟨sb,0,none⟩=some (.string s)):
  Gv DM 247 [pp b,.func (.func 248) #[] #[pp sb]] w λr w'=>(∃N:Nat,r=ii N/\AhN L s N)/\Ext w w':=by
 have hn:=hL.n;have av:upN L.length 16<=4194304:=AE (qbd _ _ Od) hn;refine gvW Jk Tryz.func247 rfl Tryz.ntmps247 rfl (zw ?_);refine znm (Mem.nil w) ?_;intro b2 w1 H;refine znm H λb3 w2 H=>zw ?_;obtain⟨fv,aj⟩:∃fv:DF,fv=.func (.func 248) #[] #[pp sb]:=⟨_,rfl⟩
 refine zR H 1 ?_;obtain⟨P,cp,E,ce,ak,_,_,_⟩:=(hD.ext H.ext).1;refine LoadV.own ak rfl ?_;rw[hL.eN];(conv=>whnf);refine zcv (qnn L.length w2 hn) ?_;rintro v w' ⟨rfl,rfl⟩;(conv=>whnf);have al:=qvy 321 (pp b2) (pp b3) (upN L.length 16) (λi => !(decide (16*i<L.length)&&ltx L (16*i) s)) w' av (λi j a0 h=>by
  simp only[Co,Bool.and_eq_false_iff,decide_eq_false_iff_not]at h|-
  by_cases V:16*j<L.length
  ·right
   have h1:=h.resolve_left (λg=>g Oo);cases hx:ltx L (16*j) s
   ·rfl
   ·rw[hL.ltx_up Oo V hx]at h1;cases h1
  ·exact .inl V) (λi w2 hi he=>(qze L hL b b2 b3 sb i s w2 (hD.ext (H.ext.trans he)) hi (by rw[qa (he.get (H.get (zmc mh)))];rfl) (by rw[qa (he.get (H.get mh))];rfl) ((H.ext.trans he).cell hs)).mono λr w3 ⟨h1,h2⟩=>⟨by
    have am:16*i<L.length:=by unfold upN at hi;omega
    rw[h1,At am,Ct],h2⟩)
 refine zcv (al) ?_;rintro v w3 ⟨k,rfl,a1,aa,ad,aw⟩;have H:=H.call aw;clear al;have an:∀i,i<upN L.length 16->16*i<L.length:=λi h=>by unfold upN at h;omega
 have aa:∀i,i<k->ltx L (16*i) s=true:=λi h=>by
  have h1:=aa i h;have h2:=an i Oo
  simpa[h2]using h1
 have ad:∀i,k<=i->16*i<L.length->ltx L (16*i) s=false:=λi h h2=>by
  have h1:=ad i h (by unfold upN;omega)
  simpa[h2]using h1
 clear ak;(conv=>whnf);refine zC (λ_=>zu ?_) (λ_=>zu ?_)
 ·obtain rfl:k=0:=by omega
  exact⟨⟨0,rfl,Af _,λi h=>by omega,λh=>ad 0 znr h⟩,H.ext⟩
 obtain⟨q,rfl⟩:∃q,k=q+1:=⟨k-1,by omega⟩
 rw[show(((q+1:Nat):Int)-1)=(q:Int)by omega];refine znm H ?_;intro b6 w4 H;refine StoreV.mem H (i:=0) rfl Js rfl ?_;intro w5 H;refine zr H 2 ?_;refine zv ?_;rw[show(((q+1:Nat):Int)-1)=(q:Int)by omega];refine zcv (q15 b q w5) ?_;rintro v w6 ⟨b1,b7,rfl,ae⟩;have H:=H.glue ae;have ao:dN (q8 L)=L.length:=hL.eN;obtain⟨n,en⟩:∃n,n=min 16 (L.length-16*q):=⟨_,rfl⟩
 have ax:BEnd (q8 L) q n:=by
  have:=BEnd.full (m:=q8 L) (by rw[hL.eoE]) q;rw[ao,<-en]at this;exact this
 have af:=an q Oo;obtain⟨R,eR⟩:∃R:Nat->DJ,R=λk=>[(b7,.cells #[ii q] 3),(b1,.cells #[pp b] 300),(b6,.cells #[ii (16*q+k:Nat)] 3),(b3,.cells #[fv] 360),(b2,.cells #[pp b] 300)]:=⟨_,rfl⟩
 have H:Mem w w6 (R 0):=by
  rw[eR,aj];dsimp only;rw[show((16*q+0:Nat):Int)=(q:Int)*16 by omega];exact H
 have aq:∀k,(b1,Obj.cells #[pp b] 300)∈R k:=λk=>by rw[eR];exact zmg (i:=1) rfl
 have ar:∀k,(b7,Obj.cells #[ii q] 3)∈R k:=λk=>by rw[eR];exact zmg (i:=0) rfl
 have ag:((List.range n).map (bRow (q8 L) q)).length=n:=by simp
 refine qyi (Φ:=BlkΦ b (q8 L) q b1 b7) (lb:=[pp b1,pp b7]) (xs:=(List.range n).map (bRow (q8 L) q)) rfl Jk (qrd b (q8 L) q n b1 b7 (by rw[ao];omega) ax).toC Od ?_
  (λk X w'=>∃_:Unit,(k<=n/\∀j,j<k->ltx L (16*q+j) s=true)/\Mem w w' (X++R k))
  (λc k X w'=>∃_:Unit,(c=.exit 0/\k<n/\(∀j,j<k->ltx L (16*q+j) s=true)/\ltx L (16*q+k) s=false)/\Mem w w' (X++R k))
  (λk=>Carr.mem _ _) (λc k=>Carr.mem _ _) (λk X w' ⟨_,_,ah⟩=>⟨hD.ext ah.ext,by rw[qa (ah.get (Ac _ (aq _)))];rfl,by rw[qa (ah.get (Ac _ (ar _)))];rfl⟩) ⟨(),⟨Af _,λj h=>by omega⟩,by simpa using H⟩ ?_ ?_ ?_
 ·intro x hx;obtain⟨j,_,rfl⟩:=AA.1 hx;rfl
 ·clear H ae;rintro l D ob k x X w7 w8 hx ⟨_,⟨hk,V⟩,H⟩;have ai:k<n:=by
   have:=(Ae.1 hx).1
   rwa[ag]at this
  rw[Ao,Bs ai,Be,AI,q7q _ _ _ Oo,hL.txt Oo]at hx;subst hx;obtain⟨X',ay⟩:∃X',X'=(l,ob)::(D,.deferred (some []))::X:=⟨_,rfl⟩
  rw[<-ay]at H|-;have H:Mem w w8 (R k++X'):=H.perm Ap;rw[eR]at H|-;dsimp only at H|-;rw[aj]at H|-;(conv=>whnf);refine⟨rfl,rfl,?_⟩;refine zr H 3 ?_;refine zcv (qrv sb ⟨(tx L (16*q+k)).toArray⟩ s w8 (H.ext.cell hs)) ?_;rintro r w9 ⟨rfl,az⟩;have H:=H.call az;cases au:slt ⟨(tx L (16*q+k)).toArray⟩ s
  ·refine zu ?_;exact⟨(),⟨rfl,ai,V,au⟩,H.perm Ap⟩
  ·refine zu ?_;refine StoreV.mem H (i:=2) rfl Js rfl λa2 H=>zw ?_;refine⟨(),⟨ai,λj' a3=>?_⟩,?_⟩
   ·by_cases e:j'=k
    ·subst e;exact au
    ·exact V j' Oo
   ·rw[show((16*q+(k+1):Nat):Int)=((16*q+k:Nat):Int)+1 by omega];exact H.perm Ap
 ·clear H ae;rintro D w8 ⟨_,⟨hk,V⟩,H⟩;rw[ag]at hk V H;have H:=H.perm (List.Perm.cons _ (show(([]:DJ)++R n).Perm (R n)from List.Perm.refl _));rw[eR]at H;refine zR H 3 ?_;refine LeaveV.mark (H.get mh) λw9 hw=>?_;have H:=H.setO (i:=0) _ rfl hw;(conv=>whnf);refine⟨⟨16*q+n,rfl,by omega,λi hi=>?_,λhl=>?_⟩,H.ext⟩
  ·by_cases g:i<16*q
   ·exact hL.ltx_up (j:=16*q) Oo af (aa q Oo)
   ·obtain⟨j,rfl⟩:∃j,i=16*q+j:=⟨i-16*q,by omega⟩
    exact V j Oo
  ·have hN:16*q+n=16*(q+1):=by omega
   rw[hN]at hl|-;exact ad (q+1) znr hl
 ·clear H ae;rintro D c k w8 a4 ⟨_,⟨rfl,hk,V,hx⟩,H⟩;rw[eR]at H;refine zR H 3 ?_;refine LeaveV.mark (H.get mh) λw9 hw=>?_;have H:=H.setO (i:=0) _ rfl hw;(conv=>whnf);refine⟨⟨16*q+k,rfl,by omega,λi hi=>?_,λhl=>?_⟩,H.ext⟩
  ·by_cases g:i<16*q
   ·exact hL.ltx_up (j:=16*q) Oo af (aa q Oo)
   ·obtain⟨j,rfl⟩:∃j,i=16*q+j:=⟨i-16*q,by omega⟩
    exact V j Oo
  ·exact hx
theorem q8o(L:List LB)(hL:DOk L)(b:Nat)(s:DB)(w:DA)(hD:DictAt w b (q8 L)):
  Gv DM 176 [pp b,.string s] w λr w'=>(∃N:Nat,AhN L s N/\r=.tuple #[ii N,.bool (decide (N<L.length/\(⟨(tx L N).toArray⟩:DB)=s))])/\Ext w w':=by
 have hn:=hL.n;refine ze Tryz.func176 Tryz.ntmps176 ?_;refine znm (Mem.nil w) λsb w1 H=>zw ?_;refine zcv (q1v L hL b sb s w1 (hD.ext H.ext) (by rw[qa (H.get mh)];rfl)) ?_;rintro r w2 ⟨⟨N,rfl,hN⟩,aa⟩;have H:=H.call aa;have ae:=hN.le;(conv=>whnf);refine zcv (qxf b (q8 L) N w2 (hD.ext H.ext) Oo) ?_;rintro r w3 ⟨rfl,ad⟩;have H:=H.call ad
 by_cases V:N<L.length
 ·have hg:qio (q8 L) N=.tuple #[.string ⟨(tx L N).toArray⟩,.bool true]:=by rw[qio,hL.eGet V]
  rw[hg];(conv=>whnf);refine zy ?_;refine zv ?_;refine zr H.drew 0 ?_;refine zv ?_;refine⟨⟨N,hN,?_⟩,H.drew.ext⟩;have e:seq ⟨(tx L N).toArray⟩ s=decide (N<L.length/\(⟨(tx L N).toArray⟩:DB)=s):=by
   cases hq:seq ⟨(tx L N).toArray⟩ s
   ·exact(Ax λg=>qtg.1 hq g.2).symm
   ·exact(At ⟨V,qab.1 hq⟩).symm
  rw[e]
 ·have hg:qio (q8 L) N=.tuple #[.string ⟨#[]⟩,.bool false]:=by rw[qio,dGet,Aa (by rw[hL.eN];exact V)]
  rw[hg];(conv=>whnf);refine zy ?_;refine zv ?_;refine⟨⟨N,hN,?_⟩,H.drew.ext⟩;have e:decide (N<L.length/\(⟨(tx L N).toArray⟩:DB)=s)=false:=Ax λg=>V g.1
  rw[e]
theorem AhN.at{L:List LB}(h:DOk L){s:DB}(hN:AhN L s N)(H:j<L.length)(he:(⟨(tx L j).toArray⟩:DB)=s):N=j:=by
 rcases Cr N j with g|g|g
 ·have V:=hN.ge Oo;have h2:=h.up g H
  grind [ltx]
 ·exact g
 ·have V:=hN.lt j g
  grind [ltx,qjd]
section
variable {T:List TM} (h:VOk T) (hr:RiseT T) (hk:∀t∈T,1<=t.kind/\t.kind<=3)
include h hr hk
theorem VOk.num{t:TM}(V:k<3)(H:(ofK T k)[j]?=some t):noT T t=vTot (vocB T) k+1+j:=by
 have e:=qu4 hr hk;have t1:=h.tot1;have t2:=h.tot2;have t0:vTot (vocB T) 0=0:=rfl;have hl:=(Ae.1 H).1;have aa:=qko (zmg H);obtain⟨A,eA⟩:∃A,A=ofK T 0:=⟨_,rfl⟩
 obtain⟨B,eB⟩:∃B,B=ofK T 1:=⟨_,rfl⟩
 obtain⟨C,eC⟩:∃C,C=ofK T 2:=⟨_,rfl⟩
 have hG:∀m:Nat,T[m]?=(A++(B++C))[m]?:=λm=>by grind
 have hT:T[vTot (vocB T) k+j]?=some t:=by
  rw[hG]
  rcases(show k=0\/k=1\/k=2 by omega)with rfl|rfl|rfl
  all_goals grind
 grind [qgl]
theorem VOk.find{t:TM}(H:k<3)(ht:t∈T)(V:t.kind=((k+1:Nat):Int))(hN:AhN (secE T k) ⟨(qai t).toArray⟩ N):N<(secE T k).length/\(⟨(tx (secE T k) N).toArray⟩:DB)=⟨(qai t).toArray⟩/\noT T t=vTot (vocB T) k+1+N:=by
 have hm:t∈ofK T k:=By.2 ⟨ht,by simpa using V⟩;obtain⟨j,hj⟩:=AT.1 hm;have hl:=(Ae.1 hj).1;have hx:tx (secE T k) j=qai t:=by grind [tx,qcx]
 have aa:(secE T k).length=(ofK T k).length:=by grind [qcx]
 obtain rfl:=hN.at (h.d k H) (j:=j) Oo (by rw[hx])
 exact⟨by omega,by rw[hx],h.num hr hk H hj⟩
end
structure OrdC{α:Type}(c:α->α->Int):Prop where
 eq:∀{a b:α},c a b=0↔a=b
 sym:∀{a b:α},c a b<0↔0<c b a
 trans:∀{a b d:α},c a b<0->c b d<0->c a d<0
def RiseC{α:Type}(c:α->α->Int)(l:List α):Prop:=l.Pairwise λa b=>c a b<0
section
variable {α:Type} {c:α->α->Int} (O:OrdC c)
include O
theorem OrdC.irr(a:α):¬c a a<0:=by have:=O.eq (a:=a) (b:=a) |>.2 rfl;omega
theorem OrdC.tri(a b:α):c a b<0\/a=b\/c b a<0:=by
 rcases Int.lt_trichotomy (c a b) 0 with h|h|h
 ·exact .inl h
 ·exact .inr (.inl (O.eq.1 h))
 ·exact .inr (.inr (O.sym.2 h))
theorem RiseC.same:∀{a b:List α},RiseC c a->RiseC c b->(∀y,y∈a↔y∈b)->a=b
 | [],[],_,_,_=>rfl
 | [],x::b,_,_,h=>absurd ((h x).2 mh) Js
 | x::a,[],_,_,h=>absurd ((h x).1 mh) Js
 | x::a,u::b,ha,hb,h=>by
  have V:=Bf.1 ha;have h2:=Bf.1 hb;have e:x=u:=by
   rcases Ay.1 ((h x).1 mh)with e|hx
   ·exact e
   ·rcases Ay.1 ((h u).2 mh)with e|hu
    ·exact e.symm
    ·exact absurd (O.trans (V.1 u hu) (h2.1 x hx)) (O.irr x)
  subst e;rw[RiseC.same V.2 h2.2 λy=>?_]
  constructor
  ·intro H
   rcases Ay.1 ((h y).1 (zmc H))with e|g
   ·subst e;exact absurd (V.1 y H) (O.irr y)
   ·exact g
  ·intro H
   rcases Ay.1 ((h y).2 (zmc H))with e|g
   ·subst e;exact absurd (h2.1 y H) (O.irr y)
   ·exact g
end
theorem qui{a b:Q4}(h:∀k,k<4->gat a k=gat b k):a=b:=by
 have H:a.g=b.g:=h 0 Od;have V:a.s=b.s:=h 1 Od;have h2:a.p=b.p:=h 2 Od;have h3:a.o=b.o:=h 3 Od;cases a;simp_all
theorem LtQ.tri(a b:Q4):LtQ a b\/a=b\/LtQ b a:=by
 by_cases h:∃k,k<4/\gat a k≠gat b k
 ·have ad:∀n k,k<=n->k<4->gat a k≠gat b k->LtQ a b\/a=b\/LtQ b a:=by
   intro n
   induction n with
   | zero=>
    intro k hk H aa;have e:k=0:=by omega
    subst e
    rcases LtT.tri (gat a 0) (gat b 0)with g|g|g
    ·exact .inl ⟨0,H,λj V=>absurd V (BW _),g⟩
    ·simp_all
    ·exact .inr (.inr ⟨0,H,λj V=>absurd V (BW _),g⟩)
   | succ n ih=>
    intro k hk H aa
    by_cases V:∃j,j<k/\gat a j≠gat b j
    ·grind
    ·have hs:∀j,j<k->gat a j=gat b j:=λj g=>Aw λhn=>V ⟨j,g,hn⟩
     rcases LtT.tri (gat a k) (gat b k)with g|g|g
     ·exact .inl ⟨k,H,hs,g⟩
     ·simp_all
     ·exact .inr (.inr ⟨k,H,λj V=>(hs j V).symm,g⟩)
  grind
 ·exact .inr (.inl (qui λk hk=>Aw λhn=>h ⟨k,hk,hn⟩))
theorem LtQ.irr(a:Q4):¬LtQ a a:=λ⟨_,_,_,h⟩=>h.ne rfl
theorem qt6{a b:Q4}:cmpQ a b=0↔a=b:=by
 constructor
 ·intro h;have e:cmpT a.g b.g=0/\cmpT a.s b.s=0/\cmpT a.p b.p=0/\cmpT a.o b.o=0:=by
   grind [cmpQ]
  obtain⟨H,V,e2,e3⟩:=e;refine qui λk hk=>?_
  rcases(show k=0\/k=1\/k=2\/k=3 by omega)with rfl|rfl|rfl|rfl
  ·exact qar.1 H
  ·exact qar.1 V
  ·exact qar.1 e2
  ·exact qar.1 e3
 grind [qar,cmpQ]
theorem ordQ:OrdC cmpQ where
 eq:=qt6
 sym {a b}:=by
  constructor
  ·intro h;have H:=qfb.1 h;have V:¬cmpQ b a<0:=λg=>LtQ.irr a (H.trans (qfb.1 g))
   grind [qt6]
  ·intro h
   rcases LtQ.tri a b with g|g|g
   ·exact qfb.2 g
   ·grind [qt6]
   ·have:=qfb.2 g;omega
 trans h g:=qfb.2 ((qfb.1 h).trans (qfb.1 g))
open Classical
noncomputable section
end
def aheC(q:Q4):List Q4->Nat
 | []=>0
 | x::L=>if cmpQ x q<0 then aheC q L+1 else 0
theorem qq9{q:Q4}:∀{L:List Q4},RiseC cmpQ L->(L[aheC q L]?=some q↔q∈L)
 | [],_=>by simp
 | x::L,h=>by
  obtain⟨h1,h2⟩:=Bf.1 h;rw[aheC]
  split
  ·rename_i H
   rw[B7,qq9 h2,Ay]
   constructor
   ·exact .inr
   ·rintro(rfl|g)
    ·exact absurd H (ordQ.irr q)
    ·exact g
  ·rename_i V
   rw[AQ,Ay]
   constructor
   ·intro e;cases e;exact .inl rfl
   ·rintro(rfl|g)
    ·rfl
    ·exact absurd (h1 q g) V
def fitT(p t:TM):Bool:=decide (p.kind=4)||qal p t
def fitQ(p q:Q4):Bool:=fitT p.s q.s&&fitT p.p q.p&&fitT p.o q.o&&fitT p.g q.g
theorem qpc(p q:Q4):fitQ p q=(fitT (gat p 0) (gat q 0)&&(fitT (gat p 1) (gat q 1)&&(fitT (gat p 2) (gat q 2)&&fitT (gat p 3) (gat q 3)))):=by
 show(fitT p.s q.s&&fitT p.p q.p&&fitT p.o q.o&&fitT p.g q.g)=(fitT p.g q.g&&(fitT p.s q.s&&(fitT p.p q.p&&fitT p.o q.o)))
 grind
def idT(T:List TM)(t:TM):Int:=if t.kind=4 then -1 else(noT T t:Nat)
def KnT(T:List TM)(t:TM):Prop:=t.kind=4\/t∈T\/t=zTM
theorem qadx(hr:RiseT T)(hk:∀t∈T,1<=t.kind){a b:TM}(H:a∈T\/a=zTM)(V:b∈T\/b=zTM)(h:noT T a=noT T b):a=b:=by
 grind [List.mem_iff_getElem?,qgl,zTM,qhu]
theorem qafp(hr:RiseT T)(hk:∀t∈T,1<=t.kind){P:Nat->Int}{p t:TM}(hP:P k=idT T p)(ht:t∈T\/t=zTM)(V:KnT T p):agB P k (noT T t)=fitT p t:=by
 rw[agB,hP,idT,fitT]
 by_cases H:p.kind=4
 ·simp_all
 ·rw[Aa H,Ax H,Dn];have V:=V.resolve_left H
  grind [q7,qadx]
theorem qaca(hr:RiseT T)(hk:∀t∈T,1<=t.kind){P:Nat->Int}{p:Q4}(H:∀k,k<4->P k=idT T (gat p k))(V:∀k,k<4->KnT T (gat p k)){q:Q4}(hi:qs[i]?=some q)(hq:∀k,k<4->gat q k∈T\/gat q k=zTM):
  agF P (noQ T qs) i 0 4=fitQ p q:=by
 grind [qafp,qpc,agF,qjt]
theorem q26{p q:Q4}(H:k<4)(V:¬KnT T (gat p k))(hq:∀k,k<4->gat q k∈T\/gat q k=zTM):fitQ p q=false:=by
 have h:fitT (gat p k) (gat q k)=false:=by
  grind [fitT,q7,KnT]
 grind [qpc]
def qbe(p:Q4)(qs:List Q4):DL:=(List.range qs.length).filter λi=>match qs[i]? with
 | some q=>fitQ p q
 | none=>false
theorem qls(hr:RiseT T)(hk:∀t∈T,1<=t.kind)(H:∀q∈qs,∀k,k<4->gat q k∈T\/gat q k=zTM){P:Nat->Int}{p:Q4}(V:∀k,k<4->P k=idT T (gat p k))(hp:∀k,k<4->KnT T (gat p k)):
  maT P (noQ T qs) 0 0 qs.length=qbe p qs:=by
 grind [maT,qbe,List.filter_congr,qaca]
theorem q40(V:∀q∈qs,∀k,k<4->gat q k∈T\/gat q k=zTM){p:Q4}(H:k<4)(hp:¬KnT T (gat p k)):qbe p qs=[]:=by
 grind [qbe,List.filter_eq_nil_iff,q26]
theorem qz4(p:Q4)(qs:List Q4):(qbe p qs).filterMap (λi=>qs[i]?)=qs.filter (fitQ p):=by
 have H:∀n,n<=qs.length->((List.range n).filter λi=>match qs[i]? with
   | some q=>fitQ p q
   | none=>false).filterMap (λi=>qs[i]?)=(qs.take n).filter (fitQ p):=by
  intro n
  induction n<;>grind [List.range_succ,List.take_add_one]
 have:=H qs.length znr
 rwa[BO]at this
theorem q2z{a b:TM}(H:qam a=0)(V:qam b=0)(hk:a.kind=b.kind)(h:qai a=qai b):a=b:=by
 rcases LtT.tri a b with g|g|g
 ·have:=qo5 H V hk g;rw[h]at this;exact absurd this (List.lt_irrefl _)
 ·exact g
 ·have:=qo5 V H hk.symm g;rw[h]at this;exact absurd this (List.lt_irrefl _)
open Classical in
noncomputable def idR(T:List TM)(t:TM):DF:=if t∈T\/t=zTM then .tuple #[ii (noT T t:Nat),.bool true]else .tuple #[ii 0,.bool false]
theorem qaex{t:TM}(he:∀t∈T,qam t=0)(ht:qam t=0)(ek:t.kind=((k+1:Nat):Int))(hN:N<(secE T k).length)(hx:(⟨(tx (secE T k) N).toArray⟩:DB)=⟨(qai t).toArray⟩):t∈T:=by
 have V:tx (secE T k) N=qai t:=by
  have:=Ad (λb:DB=>b.data.toList) hx
  simpa using this
 have aa:(secE T k).length=(ofK T k).length:=by rw[qcx,A6]
 have hj:(ofK T k)[N]?=some ((ofK T k)[N]' Oo):=zge Oo;rw[tx,Ag,qcx,Ao,hj]at V;have hm:=AK (l:=ofK T k) (n:=N) Oo;have H:=(By.1 hm).1;have:=q2z (he _ H) ht (by rw[qko hm,ek]) V;rw[<-this];exact H
theorem qza(T:List TM)(h:VOk T)(hr:RiseT T)(hk:∀t∈T,1<=t.kind/\t.kind<=3)(he:∀t∈T,qam t=0)(b:Nat)(t:TM)(ai:TermOk t)(w:DA)(hV:VocAt w b (vocB T))(hM:MaxLenAt w)(hT:CellsAt w 4 0 qb3):
  Gv DM 100 [pp b,qy t] w λr w'=>r=idR T t/\Ext w w':=by
 have av:=hV.tot (k:=3) Od;refine ze Tryz.func100 Tryz.ntmps100 ?_;refine znm (Mem.nil w) ?_;intro tb w1 H;have H:Mem w w1 [(tb,.cells #[ii t.kind,.string t.text,.string t.type,.string t.lang] 45)]:=H;(conv=>whnf);refine zl H 0 ?_;refine RunV.eqTerm (a:=t) (b:=zTM) (.inl rfl) (zw ?_);cases hz:qal t zTM
 case true=>
  obtain rfl:=q7.1 hz;refine zu ?_;exact⟨by rw[idR,Ab (.inr rfl),qhu rfl];rfl,H.ext⟩
 have ah:t≠zTM:=λe=>by rw[e,q7.2 rfl]at hz;cases hz
 refine zu ?_;refine zl H 0 ?_;have ad:=qol t ai w1 (hM.ext H.ext) (hT.ext H.ext)
 by_cases tE:qam t=0
 case neg=>
  rw[Aa tE]at ad;refine zcv (ad) ?_;rintro r w2 ⟨rfl,af⟩;have h0:¬((qam t:Nat):Int)=0:=by omega
  refine zu ?_;exact⟨by rw[idR,Aa (λh=>h.elim (λh=>tE (he t h)) ah)],(H.call af).ext⟩
 rw[Ab tE]at ad;refine zcv (ad) ?_;rintro r w2 ⟨rfl,af⟩;have H:=H.call af;refine zu ?_;have aw:=q1i tE;obtain⟨k,aa,ek⟩:∃k:Nat,k<3/\t.kind=((k+1:Nat):Int):=⟨(t.kind-1).toNat,by omega,by omega⟩
 obtain⟨d,hd,_⟩:=hV.cell;obtain⟨aj,ak,al⟩:=hd k aa;have am:CellsAt w b (2*k) [.pointer (some ⟨d k,0,none⟩),ii (vTot (vocB T) k+1:Nat)]:=λj v hv=>by
  match j,hv with
  | 0,hv=>rw[<-hv];exact aj
  | 1,hv=>rw[<-hv];exact ak
 refine DrawV.gen (λS V w'=>Al w [(tb,.cells #[ii t.kind,.string t.text,.string t.type,.string t.lang] 45)] (.cells #[.pointer none,ii 0] 302) (.cells #[.pointer (some ⟨d k,0,none⟩),ii (vTot (vocB T) k+1:Nat)] 302) (.cells #[] 0) (.cells #[] 0) (S 8) false (S 9) false (V 8) undef w') rfl Jk (λV=>Al.start H.drew) ?_;clear H;(conv=>whnf);refine zg ?_;refine zg ?_;refine zLg ?_;rw[ek];(iterate 3 (refine zg ?_));refine StepG.of (.pointer (some ⟨b,2*k,none⟩)) (λS V wd hk hp hI=>zw ?_) (zw ?_)
 ·refine IdxV.at_ k Oo Oo (zw ?_);exact⟨Ad (λo=>Value.pointer (some ⟨b,o,none⟩)) (by rw[show tsz DM 302=2 from by kernel_rfl];show 0+0+k*2=2*k;omega),hI⟩
 refine StepG.of (.agg #[.pointer (some ⟨d k,0,none⟩),ii (vTot (vocB T) k+1:Nat)]) (λS V wd hk hp hI=>zw ?_) (zw ?_)
 ·refine LoadA.cells (CellsAt.ext am hI.mem.ext) (by rw[show tsz DM 302=2 from by kernel_rfl];rfl) (zw ?_);exact⟨rfl,hI⟩
 refine StepG.any (λS V wd hk hp hI=>?_) (zw ?_)
 ·dsimp only at hI;rw[hk]at hI;(conv=>whnf);refine⟨λx wx hb hw=>?_⟩;subst hb hw;(conv=>whnf);exact⟨trivial,hI.new1⟩
 refine StepG.of undef (λS V wd hk hp hI=>?_) (zw ?_)
 ·dsimp only at hI;have h9:S 8=true:=hp 8 Od;rw[hk,h9]at hI;obtain⟨nb,hv,M,an,ao⟩:=hI.put1;rw[ql hv];(conv=>whnf);refine zS an 0 λwx aq=>zw ?_;exact⟨rfl,by show Al _ _ _ _ _ _ (S 8) false true false _ _ _;rw[h9];exact ao aq rfl⟩
 intro V w5 hI;obtain⟨t8,ar,H⟩:=hI.done1;rw[ql ar];clear hI;have H:Mem w w5 [(t8,.cells #[.pointer (some ⟨d k,0,none⟩),ii (vTot (vocB T) k+1:Nat)] 302),(tb,.cells #[ii (k+1:Nat),.string t.text,.string t.type,.string t.lang] 45)]:=H;(conv=>whnf);refine zr H 0 ?_;have ae:DictAt w5 (d k) (q8 (secE T k)):=by
  have:=al.ext H.ext
  rwa[h.sDict aa]at this
 refine zcv (q8o (secE T k) (h.d k aa) (d k) ⟨(qai t).toArray⟩ w5 ae) ?_;rintro r w6 ⟨⟨N,hN,rfl⟩,ag⟩
 by_cases hf:N<(secE T k).length/\(⟨(tx (secE T k) N).toArray⟩:DB)=⟨(qai t).toArray⟩
 case neg=>
  have au:t∉T:=λht=>by
   obtain⟨f1,f2,_⟩:=h.find hr hk aa ht ek hN;exact hf ⟨f1,f2⟩
  rw[Ax hf];have H:=H.call ag;refine zu ?_;exact⟨by rw[idR,Aa (λh=>h.elim au ah)],H.ext⟩
 have ht:t∈T:=qaex he tE ek hf.1 hf.2;obtain⟨f1,f2,f3⟩:=h.find hr hk aa ht ek hN;rw[show decide (N<(secE T k).length/\(⟨(tx (secE T k) N).toArray⟩:DB)=⟨(qai t).toArray⟩)=true from At ⟨f1,f2⟩];have H:=H.call ag;have ax:=(h.d k aa).n;have ay:=hV.tot (k:=k) Oo;refine zu ?_;refine zr H 0 ?_;refine zv ?_;refine zcv (qxg (d k) (q8 (secE T k)) w6 (ae.ext ag)) ?_;rintro r w7 ⟨rfl,rfl⟩;rw[(h.d k aa).eN];refine zu ?_;refine zr H 0 ?_;refine zv ?_;refine⟨?_,H.ext⟩;rw[idR,Ab (.inl ht),f3];rfl
open Go.RowKit
namespace V
structure Chn(F:DL)(w w':DA):Prop where
 os:w'.os=w.os
 tape:w'.tape=w.tape
 output:w'.output=w.output
 size:w.heap.size<=w'.heap.size
 block:∀k,k<w.heap.size->k∉F->w'.heap[k]?=w.heap[k]?
theorem Chn.refl(F:DL)(w:DA):Chn F w w:=⟨rfl,rfl,rfl,Ai _,λ_ _ _=>rfl⟩
section
variable {w0 w w':DA} {Fs:List DL}
end
def rowF(v:DF):DL:=v.ownBlock.toList
end V
namespace V
theorem Ext.first{o:Obj}(H:Ext w w')(ho:w'.heap[w.heap.size]?=some o):Ext (w.alloc o) w':=by
 have V:w.heap.size<w'.heap.size:=by
  grind
 refine⟨H.os,H.tape,H.output,by rw[World.size_alloc];omega,λk hk=>?_⟩;rw[World.size_alloc]at hk
 by_cases e:k=w.heap.size
 ·grind [heap_alloc_new]
 ·rw[Below.heap_alloc _ _ _ Oo];exact H.block k Oo
def qy0(w:DA)(n k:Nat):DJ:=((List.range k).map λi=>(n+i,(w.heap[n+i]?).getD (.cells #[] 0))).reverse
section
variable {J:DJ->DI}
theorem Carr.since(hJ:Carr J)(h:J X w)(he:Ext w w'):J (qy0 w' w.heap.size (w'.heap.size-w.heap.size)++X) w':=by
 have H:∀k,w.heap.size+k<=w'.heap.size->∃v,v.heap.size=w.heap.size+k/\Ext v w'/\J (qy0 w' w.heap.size k++X) v:=by
  intro k
  induction k with
  | zero=>intro _;exact⟨w,rfl,he,h⟩
  | succ k ih=>
   intro hk;obtain⟨v,h1,V,h3⟩:=ih Oo;have ho:w'.heap[v.heap.size]?=some w'.heap[v.heap.size]:=(by simp)
   refine⟨v.alloc w'.heap[v.heap.size],by grind [World.size_alloc],V.first ho,?_⟩;have h4:=hJ.new w'.heap[v.heap.size] h3
   grind [qy0,List.range_succ]
 have hs:=he.size;obtain⟨v,h1,V,h3⟩:=H (w'.heap.size-w.heap.size) Oo;exact hJ.ext h3 V
theorem Carr.dropL(H:Carr J):∀{A Z:DJ},J (A++Z) w->J Z w
 | [],_,h=>h
 | _::A,_,h=>Carr.dropL H (A:=A) (H.drop h)
theorem Carr.pick(H:Carr J):∀(Y A Z:DJ),J (A++Z) w->(Y.map (·.1)).Nodup->(∀x∈Y,x∈A)->J (Y++Z) w
 | [],A,Z,h,_,_=>H.dropL h
 | x::Y,A,Z,h,V,hs=>by
  obtain⟨s,t,rfl⟩:=List.append_of_mem (hs x mh);rw[AB,C8]at V;have h1:J ((s++t)++x::Z) w:=H.perm h (by
   rw[Az,Az,AG];exact List.Perm.append_left s (by rw[<-List.singleton_append,<-List.singleton_append (x:=x) (l:=Z),<-Az,<-Az];exact Ap.append_right Z))
  have h2:=Carr.pick H Y (s++t) (x::Z) h1 V.2 (by grind);exact H.perm h2 Bb
theorem Carr.call(hJ:Carr J)(h:J X w)(H:Mem w w' Y):J (Y++X) w':=by
 refine hJ.pick Y _ X (hJ.since h H.ext) H.nodup λx V=>?_;have h1:=(H.own x V).1;have h2:=(H.own x V).2;have h3:=H.lt (b:=x.1) (o:=x.2) V;rw[qy0,List.mem_reverse];refine AA.2 ⟨x.1-w.heap.size,(by grind),?_⟩
 simp_all
def RowX(e:DD)(H:Nat)(v:DF)(n:Nat)(xs:DK)(Y:DJ):Prop:=
 xs.length=n*H/\((v=.slice none 0 0/\n=0/\Y=[])\/∃g V cur,v=.slice (some ⟨g,0,none⟩) n V/\Y=[(g,.cells cur e)]/\n<=V/\V<=maxLen/\cur.size=V*H/\cur.toList.take (n*H)=xs)
theorem RowX.nil(e:DD)(H:Nat):RowX e H (.slice none 0 0) 0 [] []:=⟨by rw[Nat.zero_mul];rfl,.inl ⟨rfl,rfl,rfl⟩⟩
theorem RowX.own{e:DD}{H n:Nat}{v:DF}(h:RowX e H v n xs Y)(hY:∀x∈Y,w.heap[x.1]?=some x.2):w.ownsRow 0 e H v n xs:=by
 obtain⟨h1,⟨rfl,h2,_⟩|⟨g,V,cur,rfl,rfl,r⟩⟩:=h
 ·exact⟨h1,.inl ⟨rfl,h2⟩⟩
 ·exact⟨h1,.inr ⟨g,V,cur,rfl,Af _,hY _ (Aq.2 rfl),r⟩⟩
theorem RowX.of{e:DD}{H n base:Nat}{v:DF}(h:w.ownsRow base e H v n xs):∃Y,RowX e H v n xs Y/\(Y.map (·.1))=v.ownBlock.toList/\∀x∈Y,base<=x.1/\w.heap[x.1]?=some x.2:=by
 obtain⟨h1,⟨rfl,h2⟩|⟨g,V,cur,rfl,h2,h3,r⟩⟩:=h
 ·exact⟨[],⟨h1,.inl ⟨rfl,h2,rfl⟩⟩,rfl,Js⟩
 ·exact⟨[(g,.cells cur e)],⟨h1,.inr ⟨g,V,cur,rfl,rfl,r⟩⟩,rfl,(by grind)⟩
theorem RowX.slice{e:DD}{H n:Nat}{v:DF}(h:RowX e H v n xs Y):∃A c,v=.slice A n c:=by
 obtain⟨_,⟨rfl,rfl,_⟩|⟨g,V,cur,rfl,_⟩⟩:=h<;>exact⟨_,_,rfl⟩
theorem AppV.carr{e size:Nat}{v:DF}{n:Nat}{t:DD}{i:TypeInfo}(hJ:Carr J)(h:J (Y++X) w)(hR:RowX e size v n xs Y)(ht:P.underlying t=some (.slice e))(hi:P.info? e=some i)(hz:i.zero=some z)(ad:i.size=size)(ag:z.cells.size=size)(ah:0<size)(hl:news.length=m*size)(hA:news≠[]->∃b ae,A=some ⟨b,ae,none⟩/\CellsAt w b ae news)(h1:∀u∈news,u.oneCell'=true)(hb:(n+m)*i.bytes<=140737488355328)(ai:n+m<=140737488355328)(hk:∀A' c' Y' w',RowX e size (.slice A' (n+m) c') (n+m) (xs++news) Y'->J (Y'++X) w'->K (.slice A' (n+m) c') w'):AppV P #[t,t] ty v (.slice A m c) w K:=by
 refine AppV.own ht hi hz ad ag ah (hR.own λx hx=>hJ.get h (by grind)) Oo hl hA h1 hb ai λv' w' ho hg H=>?_;obtain⟨Y',af,V,aa⟩:=RowX.of ho;obtain⟨A',c',rfl⟩:=af.slice;refine hk A' c' Y' w' af ?_;obtain⟨_,⟨rfl,rfl,rfl⟩|⟨g,ak,cur,rfl,rfl,al,am,an,ao⟩⟩:=hR
 ·have he:Ext w w':=⟨hg.os,hg.tape,hg.output,hg.size,λk hk=>hg.block k hk (λe=>by cases e)⟩
  rcases H with H|H
  ·rw[H]at V;have:Y'=[]:=List.map_eq_nil_iff.1 V;subst this;exact hJ.ext h he
  ·refine hJ.call h ⟨he,λx hx=>⟨?_,(aa x hx).2⟩,by simp_all⟩
   grind [List.mem_map_of_mem]
 ·have aq:=hJ.get h mh;have ar:g<w.heap.size:=by
   grind
  have hs:=hg.size;have au:w'.heap[g]?=some w'.heap[g]:=(by simp)
  have h2:=hJ.set w'.heap[g] h;have he:Ext (setO w g w'.heap[g]) w':=by
   refine⟨hg.os,hg.tape,hg.output,by grind [setO],λk hk=>?_⟩;have aj:k<w.heap.size:=by grind [setO]
   by_cases e:k=g
   ·grind [qmm]
   ·rw[qga e];exact hg.block k aj (by grind [Value.ownBlock])
  rcases H with H|H
  ·have h3:=hJ.ext h2 he;have e1:Y'=[(g,w'.heap[g])]:=by
    rw[H]at V
    match Y',V,aa with
    | [x],V,aa=>
     grind [Value.ownBlock]
   simp_all
  ·have h4:J (Y'++(g,w'.heap[g])::X) w':=by
    refine hJ.call h2 ⟨he,λx hx=>⟨?_,(aa x hx).2⟩,by grind⟩
    grind [List.mem_map_of_mem,setO]
   exact hJ.dropM h4
theorem qvw{t:DD}(h:w.heap[b]?=some (.cells cur t)):w.setRow b cs=setO w b (.cells cs t):=by
 have hr:=qb8 (cs:=cs) h;unfold World.setRow setO at *
 congr 1
 grind
theorem StoreA.carr(H:Carr J){A B:DJ}{t:DD}{K:DI}(h:J (A++(b,.cells cur t)::B) w)(hl:vs.length=cur.size)(h1:∀v∈vs,v.oneCell'=true)(hk:∀w',J (A++(b,.cells vs.toArray t)::B) w'->K w'):StoreA P w b 0 vs K:=by
 have V:=H.get h (Ac _ mh);have hr:=run_storeCells_at P b 0 t vs 0 cur w V (by simp[hl]) h1;refine⟨⟨_,hr,hk _ ?_⟩⟩;have e:(cur.toList.take (0+0)++vs++cur.toList.drop (0+0+vs.length)).toArray=vs.toArray:=by
  simp_all
 have e2:∀z,w.setRow b z=setO w b (.cells z t):=λz=>qvw V
 simp only[As,Bt,Br,Bi]at e|-;rw[e2,e];exact H.setM _ h
theorem Carr.ex{α:Type}{p:α->Prop}{J:α->DJ->DI}(h:∀c,Carr (J c)):Carr λX w=>∃c,p c/\J c X w:=
 ⟨λ⟨c,q,k⟩ H=>⟨c,q,(h c).ext k H⟩,(by grind [get]),(by grind [new]),(by grind [set]),λ⟨c,q,k⟩=>⟨c,q,(h c).drop k⟩,λ⟨c,q,k⟩ V=>⟨c,q,(h c).perm k V⟩⟩
theorem Carr.and(h:Carr J):Carr λX w=>p/\J X w:=
 ⟨λ⟨q,k⟩ H=>⟨q,h.ext k H⟩,λ⟨_,k⟩ V=>h.get k V,λo ⟨q,k⟩=>⟨q,h.new o k⟩,λo' ⟨q,k⟩=>⟨q,h.set o' k⟩,λ⟨q,k⟩=>⟨q,h.drop k⟩,λ⟨q,k⟩ hp=>⟨q,h.perm k hp⟩⟩
variable {P:DC} {n:Nat} {r:Option Nat}
end
end V
def TmaΦ(b:Nat)(l:LB)(b1 _:Nat)(w:DA):Prop:=TreeAt w b l/\w.cell? ⟨b1,0,none⟩=some (pp b)
def qab8(P:Nat->Int)(b2:Nat)(w:DA):Prop:=CellsAt w b2 0 [ii (P 0),ii (P 1),ii (P 2),ii (P 3)]
def tmaR(l:LB)(P:Nat->Int):List (Nat×(Nat->Nat)):=(lvG (treD l) P 3 0 0 (vNum l 0) (λ_=>0,λ_=>0)).1
theorem qof(b:Nat)(P:Nat->Int)(w:DA):Gv DM 127 [pp b,.agg #[ii (P 0),ii (P 1),ii (P 2),ii (P 3)]] w λr w'=>
  ∃b1 b2,r=.func (.func 206) #[] #[pp b1,pp b2]/\Mem w w' [(b2,.cells #[ii (P 0),ii (P 1),ii (P 2),ii (P 3)] 95),(b1,.cells #[pp b] 141)]:=by
 refine ze Tryz.func127 Tryz.ntmps127 ?_;refine znm (Mem.nil w) ?_;intro b1 w1 H;refine znm H λb2 w2 H=>zw ?_;exact⟨b1,b2,rfl,H⟩
theorem qog(b:Nat)(l:LB)(P:Nat->Int)(b1 b2:Nat)(af:∀k,k<3->tVec l (k+1)=true->vM (qf l (k+1))<=vN (qf l (k+1)))(hP:∀k,k<4->InR .i64 (P k)):
  SeqC DM 206 [pp b1,pp b2] ((tmaR l P).map mRow) (λw=>TmaΦ b l b1 b2 w/\qab8 P b2 w):=by
 intro y I Ix w cI aa hI H hy;obtain⟨⟨hT,ag⟩,ah⟩:=hI 0 [] w H;obtain⟨PP,cp,S,cs,VV,hc,_⟩:=(hT.lv 0 Od).h;have ai:=hT.n 0 Od;refine gvW Jk Tryz.func206 rfl Tryz.ntmps206 rfl (zw ?_);refine LoadV.of ag ?_;refine LoadA.cells ah rfl ?_;refine NewV.carr (cI 0) H ?_;clear H;intro wb w1 H;have H:I 0 [(wb,wkO b y P (λ_=>0,λ_=>0))] w1:=H;refine LoadV.of (hI _ _ _ H).1.2 (zw ?_);refine zJ 0 ?_;(conv=>whnf);obtain⟨PP,cp,S,cs,VV,hc,_⟩:=((hI _ _ _ H).1.1.lv 0 Od).h;refine LoadV.cellsE hc 0 (by first|rfl|(rw[lvSz];first|done|rfl)) rfl ?_;have ad:=q4n b wb y l P ((tmaR l P).map mRow) I Ix cI aa (λk X w h=>(hI k X w h).1.1) af hP hy 3 0 0 (vNum l 0) 0 (λ_=>0,λ_=>0) [] w1 rfl Oo ai (λk _=>Af _) (λt row ht=>by rw[As,Ao];exact Ad (Option.map mRow) ht) H;refine zcv ad ?_;clear H ad;have V:((tmaR l P).map mRow).length=(tmaR l P).length:=A6 ..;rintro r w2 (⟨rfl,hJ⟩|⟨rfl,j',s',ae,hX⟩)
 ·(conv=>whnf);rw[V];rw[As]at hJ;exact .inl ((cI _).drop hJ)
 ·(conv=>whnf);rw[As]at ae;exact .inr ⟨j',by rw[V];exact ae,(aa _).drop hX⟩
structure IdxAt(w:DA)(x:Nat)(l:LB):Prop where
 h:∃pb,w.cell? ⟨x,0,none⟩=some (pp pb)/\PackAt w pb l
theorem q6a(l:LB)(A:oA)(c:Nat)(w:DA)(hS:SlAt encB 1 w A l)(hc:l.length<=c)(hl:l.length<=140737488355328)(hT:CellsAt w 3 0 qlu)(hG:ErrTyp w):
  Gv DM 11 [.slice A l.length c] w λv w'=>(((packE l).2≠0/\∃e,v=.tuple #[.pointer none,e]/\ErrAt w' e (packE l).1 (packE l).2)\/((packE l).2=0/\∃x,v=.tuple #[pp x,.nilIface]/\IdxAt w' x l))/\Ext w w':=by
 refine ze Tryz.func11 Tryz.ntmps11 ?_;refine zcv (q5h l A c w hS hc hl hT hG) ?_;rintro v w1 ⟨⟨V,e,rfl,he⟩|⟨V,b,rfl,hb⟩,H⟩
 ·obtain⟨ev,rfl,aa⟩:=id he;refine zu ?_;exact⟨.inl ⟨V,_,rfl,he⟩,H⟩
 ·refine zu ?_;refine znm (Mem.nil w1) λx w2 hm=>zw ?_;exact⟨.inr ⟨V,x,rfl,⟨b,by rw[qa (hm.get mh)];rfl,hb.ext hm.ext⟩⟩,H.trans hm.ext⟩
theorem qxj(b:Nat)(w:DA):Gv DM 136 [pp b] w λr w'=>
  r=.agg #[pp b,.pointer (some ⟨b,4,none⟩),.pointer (some ⟨b,8,none⟩),.pointer (some ⟨b,12,none⟩)]/\Ext w w':=by
 refine gvW Jk Tryz.func136 rfl Tryz.ntmps136 rfl (zw ?_);refine znm (Mem.nil w) λrb w1 H=>zw ?_;refine DrawW.tail 13 Jk Jk (.inl rfl) (AnyV.free Jk ?_);(conv=>whnf);(iterate 13 (refine zd ?_));intro w2 V;have H:=H.drew.call V;(conv=>whnf);refine zS H 0 λw3 H=>zw ?_;refine qd (R:=λr w'=>r=.agg #[pp b,.pointer (some ⟨b,4,none⟩),.pointer (some ⟨b,8,none⟩),.pointer (some ⟨b,12,none⟩)]/\Ext w w') (zw ?_);refine zl H 0 ?_;exact⟨rfl,H.ext⟩
theorem qh0(q:Q4)(hi:i<4){v:DF}(H:(encT (q.at i))[k]?=some v):(qm q)[4*i+k]?=some v:=by
 have hk:k<4:=(Ae.1 H).1
 match i,hi,k,hk,H with
 | 0,_,0,_,H=>exact H
 | 0,_,1,_,H=>exact H
 | 0,_,2,_,H=>exact H
 | 0,_,3,_,H=>exact H
 | 1,_,0,_,H=>exact H
 | 1,_,1,_,H=>exact H
 | 1,_,2,_,H=>exact H
 | 1,_,3,_,H=>exact H
 | 2,_,0,_,H=>exact H
 | 2,_,1,_,H=>exact H
 | 2,_,2,_,H=>exact H
 | 2,_,3,_,H=>exact H
 | 3,_,0,_,H=>exact H
 | 3,_,1,_,H=>exact H
 | 3,_,2,_,H=>exact H
 | 3,_,3,_,H=>exact H
theorem qpb(p q:Q4):fitQ p q=true↔∀i,i<4->fitT (p.at i) (q.at i)=true:=by
 constructor
 ·intro h i hi;simp only[fitQ,AF]at h;obtain⟨⟨⟨H,V⟩,h2⟩,h3⟩:=h
  match i,hi with
  | 0,_=>exact H
  | 1,_=>exact V
  | 2,_=>exact h2
  | 3,_=>exact h3
 ·intro h;simp only[fitQ,AF];exact⟨⟨⟨h 0 Od,h 1 Od⟩,h 2 Od⟩,h 3 Od⟩
theorem q6p(p q:Q4)(w:DA):Gv DM 67 [q4 p,q4 q] w λr w'=>r=.bool (fitQ p q)/\Ext w w':=by
 refine ze Tryz.func67 Tryz.ntmps67 ?_;refine znm (Mem.nil w) ?_;intro pb w1 H;have H:Mem w w1 [(pb,.cells (qm p).toArray 47)]:=H;(conv=>whnf);refine znm H ?_;clear H;intro V w2 H;have H:Mem w w2 [(V,.cells (qm q).toArray 47),(pb,.cells (qm p).toArray 47)]:=H;(conv=>whnf);refine zcv (qxj V w2) ?_;rintro r w3 ⟨rfl,ag⟩;have H:=H.call ag;(conv=>whnf);refine znm H λab w4 H=>zw ?_;refine zS H 0 λw5 H=>zw ?_;refine zcv (qxj pb w5) ?_;rintro r w6 ⟨rfl,ah⟩;have H:=H.call ah;(conv=>whnf);obtain⟨L,eL⟩:∃L:DJ,L=[(ab,.cells #[pp V,.pointer (some ⟨V,4,none⟩),.pointer (some ⟨V,8,none⟩),.pointer (some ⟨V,12,none⟩)] 68),(V,.cells (qm q).toArray 47),(pb,.cells (qm p).toArray 47)]:=⟨_,rfl⟩
 have H:Mem w w6 L:=by rw[eL];exact H
 refine qq (λi:Nat=>[(5,pp ab),(9,.agg #[pp pb,.pointer (some ⟨pb,4,none⟩),.pointer (some ⟨pb,8,none⟩),.pointer (some ⟨pb,12,none⟩)]),(10,ii i)])
  (λi w'=>Mem w w' L/\i<=4/\∀j,j<i->fitT (p.at j) (q.at j)=true) (λi=>4-i) 0 fq ⟨H,Af _,λj hj=>by omega⟩ ?_
 clear H;rintro i w7 al ⟨H,hi,hf⟩;rw[eL]at H;(conv=>whnf);refine zC (λ_=>zu ?_) (λ_=>zu ?_)
 case' refine_2=>
  exact⟨Ad Value.bool ((qpb p q).2 λj hj=>hf j Oo).symm,H.ext⟩
 have aa:i<4:=by omega
 have tp:tsz DM 67=1:=by kernel_rfl
 have ad:∀b:Nat,[pp b,.pointer (some ⟨b,4,none⟩),.pointer (some ⟨b,8,none⟩),.pointer (some ⟨b,12,none⟩)][i]?=some (.pointer (some ⟨b,4*i,none⟩)):=λb=>by
  match i,aa with
  | 0,_=>rfl
  | 1,_=>rfl
  | 2,_=>rfl
  | 3,_=>rfl
 refine⟨⟨.pointer (some ⟨pb,4*i,none⟩),by rw[tp,Bx];exact ad pb,?_⟩⟩;have ae:CellsAt w7 pb (4*i) (encT (p.at i)):=λk v hv=>by
  rw[qa (H.get (zmc (zmc (Aq.2 rfl)))),An];exact qh0 p aa hv
 have ai:CellsAt w7 V (4*i) (encT (q.at i)):=λk v hv=>by
  rw[qa (H.get (zmc mh)),An];exact qh0 q aa hv
 have aj:w7.cell? ⟨ab,i,none⟩=some (.pointer (some ⟨V,4*i,none⟩)):=by
  rw[qa (H.get mh),An];exact ad V
 have ak:w7.cell? ⟨pb,4*i+0,none⟩=some (ii (p.at i).kind):=ae 0 _ rfl;(conv=>whnf);refine zy ?_;refine zv ?_;refine LoadV.of ak (zw ?_)
 rcases BA ((p.at i).kind=4)with h4|h4
 case inl=>
  refine zv ?_;refine⟨i+1,fq,⟨by rw[eL];exact H.drew,by omega,λj hj=>?_⟩,by omega⟩
  by_cases e:j=i
  ·subst e;rw[fitT,h4];rfl
  ·exact hf j Oo
 refine zv ?_;refine LoadA.cells (vs:=encT (p.at i)) ae rfl (zu ?_);refine LoadV.of (v:=.pointer (some ⟨V,4*i,none⟩)) (by rw[tp,As,Bx];exact aj) (zu ?_);refine LoadA.cells (vs:=encT (q.at i)) ai rfl (zu ?_);refine RunV.eqTerm (a:=p.at i) (b:=q.at i) (.inr rfl) ?_;cases af:qal (p.at i) (q.at i)
 ·refine zu ?_;refine⟨?_,H.ext.drew⟩;have e:fitQ p q=false:=CD.2 λg=>by
   have:=(qpb p q).1 g i aa;rw[fitT,af,Ax h4]at this;cases this
  rw[e]
 ·refine zu ?_;refine⟨i+1,fq,⟨by rw[eL];exact H.drew,by omega,λj hj=>?_⟩,by omega⟩
  by_cases e:j=i
  ·subst e;rw[fitT,af,D8]
  ·exact hf j Oo
def idP(T:List TM)(p:Q4):Nat->Int:=λk=>idT T (gat p k)
def KnQ(T:List TM)(p:Q4):Prop:=∀k,k<4->KnT T (gat p k)
open Classical in
noncomputable def qey(T:List TM)(p:Q4):DF:=if KnQ T p then .tuple #[.agg #[ii (idP T p 0),ii (idP T p 1),ii (idP T p 2),ii (idP T p 3)],.bool true]else .tuple #[.agg zq,.bool false]
def idC(F:Nat->Int):DK:=[ii (F 0),ii (F 1),ii (F 2),ii (F 3)]
theorem qlk(F:Nat->Int)(hi:i<4)(x:Int):(idC F).toArray.setIfInBounds i (ii x)=(idC λj=>if j=i then x else F j).toArray:=by
 match i,hi with
 | 0,_=>rfl
 | 1,_=>rfl
 | 2,_=>rfl
 | 3,_=>rfl
theorem qql(T:List TM)(qs:List Q4)(h:EncOk T qs)(x:Nat)(p:Q4)(hp:qcl p)(w:DA)(hX:IdxAt w x (encP T qs))(hM:MaxLenAt w)(hT:CellsAt w 4 0 qb3):
  Gv DM 39 [pp x,q4 p] w λr w'=>r=qey T p/\Ext w w':=by
 refine ze Tryz.func39 Tryz.ntmps39 ?_;refine znm (Mem.nil w) ?_;intro pb w1 H;have H:Mem w w1 [(pb,.cells (qm p).toArray 47)]:=H;(conv=>whnf);refine znm H λrb w2 H=>zw ?_;refine znm H ?_;clear H;intro ob w3 H;have H:Mem w w3 [(ob,.cells (idC λ_=>0).toArray 95),(rb,.cells zq 95),(pb,.cells (qm p).toArray 47)]:=H;(conv=>whnf);have V:∀w',Ext w3 w'->∀i,i<4->CellsAt w' pb (4*i) (encT (p.at i)):=λw' he i hi k v hv=>by
  rw[qa (he.get (H.get (zmc (zmc (Aq.2 rfl))))),An];exact qh0 p hi hv
 refine LoadA.cells (vs:=encT p.g) (V w3 xr 3 Od) rfl (zw ?_);refine LoadA.cells (vs:=encT p.s) (V w3 xr 0 Od) rfl (zw ?_);refine LoadA.cells (vs:=encT p.p) (V w3 xr 1 Od) rfl (zw ?_);refine LoadA.cells (vs:=encT p.o) (V w3 xr 2 Od) rfl (zw ?_);refine qq (λs:Nat×(Nat->Int)=>[(0,pp x),(4,pp rb),(6,pp ob),(19,.agg (encT p.g++encT p.s++encT p.p++encT p.o).toArray),(20,ii s.1)])
  (λs w'=>s.1<=4/\(∀j,j<s.1->s.2 j=idP T p j/\KnT T (gat p j))/\Mem w w' [(ob,.cells (idC s.2).toArray 95),(rb,.cells zq 95),(pb,.cells (qm p).toArray 47)]) (λs=>4-s.1) (0,λ_=>0) fq ⟨Af _,λj hj=>by omega,H⟩ ?_
 clear V H;rintro⟨i,F⟩ w4 al ⟨hi,hF,H⟩;dsimp only at hi hF H|-;(conv=>whnf);refine zC (λ_=>zu ?_) (λ_=>zu ?_)
 case' refine_2=>
  obtain rfl:i=4:=by omega
  have ah:KnQ T p:=λj hj=>(hF j hj).2
  have e:qey T p=.tuple #[.agg (idC F).toArray,.bool true]:=by
   rw[qey,Ab ah,<-(hF 0 Od).1,<-(hF 1 Od).1,<-(hF 2 Od).1,<-(hF 3 Od).1];rfl
  refine zl H 0 ?_;refine StoreA.all H (i:=1) rfl rfl (by simp[Value.oneCell']) λw5 H=>zw ?_;refine qd (R:=λr w'=>r=qey T p/\Ext w w') (zw ?_);refine zl H 1 ?_;exact⟨by rw[e];rfl,H.ext⟩
 have aa:i<4:=by omega
 have t4:tsz DM 45=4:=by kernel_rfl
 have t1:tsz DM 3=1:=by kernel_rfl
 refine⟨⟨encT (gat p i),?_,?_⟩⟩
 ·rw[t4]
  match i,aa with
  | 0,_=>rfl
  | 1,_=>rfl
  | 2,_=>rfl
  | 3,_=>rfl
 obtain⟨t,et⟩:∃t,t=gat p i:=⟨_,rfl⟩
 have ai:TermOk t:=by
  rw[et]
  match i,aa with
  | 0,_=>exact hp 3
  | 1,_=>exact hp 0
  | 2,_=>exact hp 1
  | 3,_=>exact hp 2
 rw[<-et];(conv=>whnf);refine znm H λtb w5 H=>zw ?_;refine StoreA.all (vs:=encT t) H (i:=0) rfl rfl (qaa t) λw6 H=>zw ?_;refine zr H 0 ?_
 rcases BA (t.kind=4)with h4|h4
 case inl=>
  refine zv ?_;refine StoreV.mem H (i:=1) rfl (by rw[t1];show 0+i*1<4;omega) rfl ?_;clear H;intro w7 H;have H:Mem w w7 [(tb,.cells (encT t).toArray 45),(ob,.cells ((idC F).toArray.setIfInBounds (0+i*tsz DM 3) (ii (-1))) 95),(rb,.cells zq 95),(pb,.cells (qm p).toArray 47)]:=H;rw[t1,As,Bx,qlk F aa]at H;refine zu ?_;refine⟨(i+1,λj=>if j=i then -1 else F j),fq,⟨by dsimp only;omega,λj hj=>?_,H.sub (Ak ..)⟩,by dsimp only;omega⟩;dsimp only at hj|-
  by_cases e:j=i
  ·subst e;rw[Ab rfl,idP,<-et,idT,Ab h4];exact⟨rfl,.inl h4⟩
  ·rw[Aa e];exact hF j Oo
 refine zv ?_;obtain⟨vp,aj,ak⟩:=hX.h;refine DrawV.free Jk Jk (zw ?_);(iterate 3 (refine zd ?_));refine zf ?_ (by intro wd hd;(conv=>whnf);refine LoadV.of (Ext.cell (Ext.trans (Ext.drew xr) hd) (H.ext.cell aj)) ?_;(conv=>whnf);exact xq);apply StepD.of (λv w=>∃vb,v=pp vb/\VocAt w vb (vocB T)) (λv w w' ⟨vb,h1,h2⟩ he=>⟨vb,h1,h2.ext he⟩)
 ·intro wd hd;(conv=>whnf);refine zcv (qu9 vp (encP T qs) wd (ak.ext (H.ext.trans ((Ext.refl w6).drew.trans hd)))) ?_;rintro r w7 ⟨⟨vb,rfl,af⟩,rfl⟩;rw[h.v]at af;exact⟨xr,vb,rfl,af⟩
 (conv=>whnf);apply zsd (qy t)
 ·intro wd hd;conv=>whnf
  (repeat(rintro _ ⟨_,rfl,_⟩;(conv=>whnf)))
  refine LoadA.mem (Mem.call (Mem.drew H) hd) (i:=0) rfl rfl (zw ?_);exact xq
 (conv=>whnf);apply zsd (idR T t)
 ·intro wd hd;conv=>whnf
  (repeat(rintro _ ⟨_,rfl,_⟩;(conv=>whnf)))
  have ag:=H.ext.trans ((Ext.refl w6).drew.trans hd);refine zcv (qza T h.voc h.set.rise h.kinds h.term _ t ai wd Oa (hM.ext ag) (CellsAt.ext hT ag)) ?_;rintro r w7 ⟨rfl,ad⟩;exact⟨ad,rfl⟩
 have hid:(KnT T (gat p i)/\idR T t=.tuple #[ii (idP T p i),.bool true])\/(¬KnT T (gat p i)/\idR T t=.tuple #[ii 0,.bool false]):=by
  rw[<-et]
  rcases BA (t∈T\/t=zTM)with g|g
  ·exact .inl ⟨.inr g,by rw[idR,Ab g,idP,<-et,idT,Aa h4]⟩
  ·exact .inr ⟨λk=>g (k.resolve_left h4),by rw[idR,Aa g]⟩
 rcases hid with⟨hk,ae⟩|⟨hk,ae⟩
 case inr=>
  rw[ae];(conv=>whnf);(iterate 5 (refine zd ?_));intro w7 ad;have H:=H.drew.call ad;conv=>whnf
  (repeat(rintro _ ⟨_,rfl,_⟩;(conv=>whnf)))
  refine zv ?_;refine StoreA.all H (i:=2) rfl rfl Od λw8 H=>zw ?_;refine qd (R:=λr w'=>r=qey T p/\Ext w w') (zw ?_);refine zl H 2 ?_;exact⟨by rw[qey,Aa (λg=>hk (g i aa))];rfl,H.ext⟩
 obtain⟨z,ez⟩:∃z,z=idP T p i:=⟨_,rfl⟩
 rw[ae,<-ez];(conv=>whnf);(iterate 5 (refine zd ?_));intro w7 ad;have H:=H.drew.call ad;conv=>whnf
 (repeat(rintro _ ⟨_,rfl,_⟩;(conv=>whnf)))
 refine zv ?_;refine StoreV.mem H (i:=1) rfl (by rw[t1];show 0+i*1<4;omega) rfl ?_;clear H;intro w8 H;have H:Mem w w8 [(tb,.cells (encT t).toArray 45),(ob,.cells ((idC F).toArray.setIfInBounds (0+i*tsz DM 3) (ii z)) 95),(rb,.cells zq 95),(pb,.cells (qm p).toArray 47)]:=H;rw[t1,As,Bx,qlk F aa]at H;refine zu ?_;refine⟨(i+1,λj=>if j=i then z else F j),fq,⟨by dsimp only;omega,λj hj=>?_,H.sub (Ak ..)⟩,by dsimp only;omega⟩;dsimp only at hj|-
 by_cases e:j=i
 ·subst e;rw[Ab rfl,ez];exact⟨rfl,hk⟩
 ·rw[Aa e];exact hF j Oo
section
variable {P:Nat->Int} {Q:Nat->Nat->Nat} {n:Nat}
theorem qwp{i:Nat}:∀{m k:Nat},(∀j,k<=j->j<k+m->P j<0)->agF P Q i k m=true
 | 0,_,_=>rfl
 | m+1,k,h=>by
  rw[agF,qwp (m:=m) (k:=k+1) λj H V=>h j Oo Oo,agB,At (h k znr Oo)];rfl
theorem q86(hk:k<=4)(h:∀j,k<=j->j<4->P j<0):maT P Q k a b=(List.range b).drop a:=by
 grind [maT,List.filter_eq_self,qwp]
theorem qjp(hk:k<=4)(h:∀j,k<=j->j<4->P j<0):(maT P Q k a b).length=b-a:=by
 grind [q86]
theorem q4x{e:Nat}(hk:k<4)(H:P k=((nuT Q k n).getD e 0:Nat))(h:∀j,k+1<=j->j<4->P j<0):(lvM P Q n k e (e+1)).length=bndT Q k (e+1) n-bndT Q k e n:=by
 grind [lvM,qhq,agB,qjp]
def staT(Q:Nat->Nat->Nat)(n:Nat):Nat->Nat->Nat->Nat
 | 0,_,i=>min i n
 | f+1,k,i=>if leT Q k n<=i then n else staT Q n f (k+1) (chT Q n k i)
theorem TOk.sta(h:TOk Q n):∀{f k:Nat} (i:Nat),f+k=3->staT Q n f k i=bndT Q k i n
 | 0,k,i,hk=>by
  obtain rfl:k=3:=by omega
  rw[staT]
  rcases Nat.le_total i n with g|g
  ·rw[h.bnd3 g,Bq g]
  ·rw[qot 3 (by rw[h.all Oo];exact g),Nat.min_eq_right g]
 | f+1,k,i,hk=>by
  rw[staT]
  split
  ·rename_i g
   rw[qot k g]
  ·rw[TOk.sta h (f:=f) (k:=k+1) _ Oo,qno]
end
def staD(T:LvD)(N:Nat):Nat->Nat->Nat->Nat
 | 0,_,i=>min i N
 | f+1,k,i=>if T.N k<=i then N else staD T N f (k+1) (T.ch k i).1
def finD(T:LvD)(N:Nat)(F:Nat->Int):Nat->Nat->Nat->Nat->Nat×Bool
 | m,k,lo,hi=>
  if min hi (T.N k)<=T.sr k (min lo (min hi (T.N k))) (min hi (T.N k)) (F k)\/(T.nu k (T.sr k (min lo (min hi (T.N k))) (min hi (T.N k)) (F k)):Int)≠F k then
   (staD T N (3-k) k (T.sr k (min lo (min hi (T.N k))) (min hi (T.N k)) (F k)),false)
  else match m with
   | 0=>(T.sr k (min lo (min hi (T.N k))) (min hi (T.N k)) (F k),true)
   | m+1=>finD T N F m (k+1) (T.ch k (T.sr k (min lo (min hi (T.N k))) (min hi (T.N k)) (F k))).1 (T.ch k (T.sr k (min lo (min hi (T.N k))) (min hi (T.N k)) (F k))).2
def cntD(T:LvD)(N one w:Nat)(P:Nat->Int):Nat->Nat->Nat->Nat->Nat
 | 0,_,_,_=>N
 | m+1,j,lo,hi=>
  if w<=j then N else if P j<0 then one else
  if min hi (T.N j)<=T.sr j (min lo (min hi (T.N j))) (min hi (T.N j)) (P j)\/(T.nu j (T.sr j (min lo (min hi (T.N j))) (min hi (T.N j)) (P j)):Int)≠P j then 0 else
  if j=3 then 1 else if j+1=w then staD T N (3-j) j (T.sr j (min lo (min hi (T.N j))) (min hi (T.N j)) (P j)+1)-staD T N (3-j) j (T.sr j (min lo (min hi (T.N j))) (min hi (T.N j)) (P j))
  else cntD T N one w P m (j+1) (T.ch j (T.sr j (min lo (min hi (T.N j))) (min hi (T.N j)) (P j))).1 (T.ch j (T.sr j (min lo (min hi (T.N j))) (min hi (T.N j)) (P j))).2
section
variable {P:Nat->Int} {Q:Nat->Nat->Nat} {n:Nat}
theorem qv0{T:LvD}(H:CanD T Q n):∀{f k i:Nat},f+k=3->staD T n f k i=staT Q n f k i
 | 0,k,i,_=>rfl
 | f+1,k,i,hk=>by
  rw[staD,staT,H.N k Oo]
  split
  ·rfl
  ·rename_i g
   rw[H.ch k i Oo Oo,qv0 H Oo]
theorem q6e{T:LvD}(V:CanD T Q n){x:Nat}(hk:k<4)(H:a<=b)(hb:b<=leT Q k n)(hr:∀i j,a<=i->i<j->j<b->(nuT Q k n).getD i 0<(nuT Q k n).getD j 0)(hx:P k=(x:Int)):
  (a<=T.sr k a b (P k)/\T.sr k a b (P k)<=b)/\(T.sr k a b (P k)<b->T.nu k (T.sr k a b (P k))=(nuT Q k n).getD (T.sr k a b (P k)) 0)/\
  lvM P Q n k a b=if T.sr k a b (P k)<b/\(nuT Q k n).getD (T.sr k a b (P k)) 0=x then lvM P Q n k (T.sr k a b (P k)) (T.sr k a b (P k)+1)else[]:=by
 have aa:∀e,e<b->T.nu k e=(nuT Q k n).getD e 0:=λe he=>V.nu k e hk Oo
 obtain⟨s1,s2⟩:=T.sr_le k (P k) H;obtain⟨s3,s4⟩:=T.sr_spec k (P k) H (by grind);exact⟨⟨s1,s2⟩,(by grind),qx4 (P:=P) (n:=n) hk hx hr s1 s2 (by grind) (by grind)⟩
def WinT(Q:Nat->Nat->Nat)(n k a b:Nat):Prop:=a<=b/\b<=leT Q k n/\∀i j,a<=i->i<j->j<b->(nuT Q k n).getD i 0<(nuT Q k n).getD j 0
theorem TOk.winT(h:TOk Q n):WinT Q n 0 0 (leT Q 0 n):=⟨Af _,Ai _,λ_ _ _ H V=>h.tops H V⟩
theorem TOk.winC(h:TOk Q n){p:Nat}(hk:k+1<4):WinT Q n (k+1) (chT Q n k p) (chT Q n k (p+1)):=⟨qke k n Oo,q2g k n _,λ_ _ H V h3=>h.sibs hk H V h3⟩
theorem qac2(h:TOk Q n){T:LvD}(hT:CanD T Q n)(hP:∀k,k<4->0<=P k):∀{m k a b:Nat},m+k=3->WinT Q n k a b->
  (∃i,finD T n P m k a b=(i,true)/\lvM P Q n k a b=[i]/\i<n)\/((finD T n P m k a b).2=false/\lvM P Q n k a b=[]):=by
 intro m
 induction m with
 | zero=>
  intro k a b hk hw;obtain rfl:k=3:=by omega
  obtain⟨H,hb,hr⟩:=hw;obtain⟨x,hx⟩:∃x:Nat,P 3=(x:Int):=⟨(P 3).toNat,by grind⟩
  obtain⟨⟨s1,s2⟩,s3,s4⟩:=q6e hT Od H hb hr hx;rw[finD,hT.N 3 Od,Bq hb,Bq H]
  by_cases V:T.sr 3 a b (P 3)<b/\(nuT Q 3 n).getD (T.sr 3 a b (P 3)) 0=x
  ·have hn:=s3 V.1;have aa:T.sr 3 a b (P 3)<n:=by have:=h.all znr;omega
   rw[Aa (by rintro(g|g);exact absurd V.1 Oo;exact g (by rw[hn,V.2,hx]))];refine .inl ⟨_,rfl,?_,aa⟩;rw[s4,Ab V,h.leaf aa,Ab (by rw[agB,V.2,hx,At (p:=(x:Int)=(x:Int)) rfl,D8])]
  grind
 | succ m ih=>
  intro k a b hk hw;obtain⟨H,hb,hr⟩:=hw;obtain⟨x,hx⟩:∃x:Nat,P k=(x:Int):=⟨(P k).toNat,by grind⟩
  obtain⟨⟨s1,s2⟩,s3,s4⟩:=q6e hT Oo H hb hr hx;rw[finD,hT.N k Oo,Bq hb,Bq H]
  by_cases V:T.sr k a b (P k)<b/\(nuT Q k n).getD (T.sr k a b (P k)) 0=x
  ·have hn:=s3 V.1;rw[Aa (by rintro(g|g);exact absurd V.1 Oo;exact g (by rw[hn,V.2,hx])),s4,Ab V,quw Oo,Ab (by rw[agB,V.2,hx,At (p:=(x:Int)=(x:Int)) rfl,D8])];rw[hT.ch k _ Oo Oo];exact ih Oo (h.winC Oo)
  grind
theorem qact(h:TOk Q n){T:LvD}(V:CanD T Q n){w one:Nat}(ag:w<=4)(hP:∀j,w<=j->j<4->P j<0):∀{m j a b:Nat},j<w->m+j=w->WinT Q n j a b->(lvM P Q n j a b).length=one->cntD T n one w P m j a b=one:=by
 intro m
 induction m with
 | zero=>omega
 | succ m ih=>
  intro j a b hj hm hw ho;obtain⟨aa,hb,hr⟩:=hw;rw[cntD,Aa Oo]
  split
  ·rfl
  rename_i af
  obtain⟨x,hx⟩:∃x:Nat,P j=(x:Int):=⟨(P j).toNat,by omega⟩
  obtain⟨⟨s1,s2⟩,s3,s4⟩:=q6e V Oo aa hb hr hx;rw[V.N j Oo,Bq hb,Bq aa]
  by_cases hc:T.sr j a b (P j)<b/\(nuT Q j n).getD (T.sr j a b (P j)) 0=x
  ·have hn:=s3 hc.1;rw[s4,Ab hc]at ho;have ad:agB P j ((nuT Q j n).getD (T.sr j a b (P j)) 0)=true:=by grind [agB]
   rw[Aa (by rintro(g|g);exact absurd hc.1 Oo;exact g (by rw[hn,hc.2,hx]))]
   by_cases h3:j=3
   ·subst h3;have ae:T.sr 3 a b (P 3)<n:=by have:=h.all znr;omega
    rw[Ab rfl,<-ho,h.leaf ae,Ab ad];rfl
   ·rw[Aa h3]
    by_cases H:j+1=w
    ·rw[Ab H,qv0 V Oo,qv0 V Oo,h.sta _ Oo,h.sta _ Oo,<-ho]
     grind [q4x]
    ·rw[Aa H,V.ch j _ Oo Oo];refine ih Oo Oo (h.winC Oo) ?_
     grind [quw]
  grind
end
theorem TreeAt.nn(h:TreeAt w b l):∀k,vNum l k<=1048576\/4<=k:=λk=>by
 rcases AN k 4 with g|g
 ·exact .inl (h.n k g)
 omega
theorem qlj(F:Nat->Int)(hk:k<4):(idC F).toArray[k]?=some (ii (F k)):=by
 match k,hk with
 | 0,_=>rfl
 | 1,_=>rfl
 | 2,_=>rfl
 | 3,_=>rfl
def VmOk(l:LB):Prop:=∀k,k<3->tVec l (k+1)=true->vM (qf l (k+1))<=vN (qf l (k+1))
theorem qgc(b:Nat)(l:LB)(k i:Nat)(w:DA)(h:TreeAt w b l)(aa:VmOk l)(hk:k<=3)(hi:i<=1048576):
  Gv DM 130 [pp b,ii k,ii i] w λr w'=>r=ii (staD (treD l) (vNum l 3) (3-k) k i:Nat)/\Ext w w':=by
 have t8:tsz DM 244=8:=by kernel_rfl
 obtain⟨R,H⟩:∃R:Nat,R=staD (treD l) (vNum l 3) (3-k) k i:=⟨_,rfl⟩
 rw[<-H];refine ze Tryz.func130 Tryz.ntmps130 ?_;refine qq (λx:Nat×Nat=>[(0,pp b),(1,ii x.1),(2,ii x.2)]) (λx w'=>x.1<=3/\x.2<=1048576/\R=staD (treD l) (vNum l 3) (3-x.1) x.1 x.2/\Ext w w') (λx=>3-x.1) (k,i) fq ⟨hk,hi,H,Ext.refl w⟩ ?_;clear hk hi H;rintro⟨k,i⟩ w1 ai ⟨hk,hi,H,he⟩;dsimp only at hk hi H he|-;have hn:=h.n 3 Od
 rcases AN k 3 with ae|ae
 case inr=>
  obtain rfl:k=3:=by omega
  refine zu ?_;refine zcv (qid b l w1 (h.ext he)) ?_;rintro r w2 ⟨rfl,rfl⟩;(conv=>whnf);refine V.Fall.min2 rfl rfl rfl λm hm=>?_;(conv=>whnf);refine⟨?_,he⟩;rw[H,hm];show ii (min (i:Int) (vNum l 3:Int))=ii ((min i (vNum l 3):Nat):Int)
  grind
 obtain⟨PP,cp,S,cs,VV,hc,_⟩:=((h.ext he).lv k Oo).h;have aj:=h.n k Oo;have ad:3-k=(3-(k+1))+1:=by omega
 rw[ad,staD]at H;have eN:(treD l).N k=vNum l k:=rfl;rw[eN]at H;have af:(treD l).ch k i=chB l k i:=rfl;rw[af]at H;refine zu ?_;refine LoadV.cellsE hc 0 (by grind) rfl (zw ?_);refine zC (λ_=>zw ?_) (λ_=>zw ?_)
 case refine_1=>
  rw[Ab Oo]at H;refine zcv (qid b l w1 (h.ext he)) ?_;rintro r w2 ⟨rfl,rfl⟩;conv=>whnf
  simp_all
 rw[Aa Oo]at H;refine zcv (qde b l k i w1 (h.ext he) Oo hi (aa k Oo)) ?_;rintro r w2 ⟨rfl,ag⟩;have ah:=qw8 (i:=i) h.nn Oo (aa k Oo);refine zu ?_;exact⟨(k+1,(chB l k i).1),⟨rfl,Ad (Value.int .i64) Oo,rfl,trivial⟩,⟨by omega,ah.1,H,he.trans ag⟩,by omega⟩
def tfin(l:LB)(F:Nat->Int):Nat×Bool:=finD (treD l) (vNum l 3) F 3 0 0 (vNum l 0)
theorem q6o(b:Nat)(l:LB)(F:Nat->Int)(w:DA)(h:TreeAt w b l)(ae:VmOk l):
  Gv DM 75 [pp b,.agg #[ii (F 0),ii (F 1),ii (F 2),ii (F 3)]] w λr w'=>r=.tuple #[ii (tfin l F).1,.bool (tfin l F).2]/\Ext w w':=by
 have t8:tsz DM 244=8:=by kernel_rfl
 have t1:tsz DM 3=1:=by kernel_rfl
 obtain⟨R,eR⟩:∃R:Nat×Bool,R=tfin l F:=⟨_,rfl⟩
 rw[<-eR];rw[tfin]at eR;refine ze Tryz.func75 Tryz.ntmps75 ?_;refine znm (Mem.nil w) ?_;intro qb w1 hm;have hm:Mem w w1 [(qb,.cells (idC F).toArray 95)]:=hm;(conv=>whnf);refine DrawV.free Jk Jk (zw ?_);(iterate 3 (refine zd ?_));refine zf ?_ (by intro wd hd;(conv=>whnf);refine zJ 0 ?_;(conv=>whnf);exact xq);refine zd ?_;refine zsd (ii (vNum l 0:Nat)) (λwd hd=>zw ?_) (zw ?_)
 ·obtain⟨PP,cp,S,cs,VV,hc,_⟩:=((h.ext hm.ext).lv 0 Oo).h;refine LoadV.cellsE (hc.ext (Ext.trans (Ext.drew xr) hd)) 0 Js rfl (zw ?_);exact xq
 refine zd ?_;refine zd ?_;intro w2 aq;replace hm:=hm.drew.call aq;(conv=>whnf);refine qq (λx:Nat×Nat×Nat=>[(0,pp b),(3,pp qb),(6,ii x.2.1),(7,ii x.2.2),(17,ii x.1)])
  (λx w'=>x.1<=3/\x.2.1<=1048576/\x.2.2<=1048576/\R=finD (treD l) (vNum l 3) F (3-x.1) x.1 x.2.1 x.2.2/\Mem w w' [(qb,.cells (idC F).toArray 95)]) (λx=>3-x.1) (0,0,vNum l 0)
  fq ⟨Af _,Af _,h.n 0 Od,eR,hm⟩ ?_
 clear hm eR;rintro⟨k,lo,hi⟩ w3 ay ⟨hk,ar,au,eR,hm⟩;dsimp only at hk ar au eR hm|-;have aa:k<4:=by omega
 have az:=h.n k aa;have ak:=h.wd k aa;obtain⟨PP,cp,S,cs,VV,hc,al,_⟩:=((h.ext hm.ext).lv k aa).h;obtain⟨H,eH⟩:∃H,H=min hi (vNum l k):=⟨_,rfl⟩
 obtain⟨L,eL⟩:∃L,L=min lo H:=⟨_,rfl⟩
 have eN:(treD l).N k=vNum l k:=rfl;have af:0+0+k*tsz DM 244=8*k:=by rw[t8];omega
 refine zu ?_;refine LoadV.cellsE hc 0 Oo rfl (zw ?_);refine V.Fall.min2 rfl rfl rfl λm a0=>?_;obtain rfl:m=(H:Int):=by omega
 (conv=>whnf);refine V.Fall.min2 rfl rfl rfl λm a1=>?_;obtain rfl:m=(L:Int):=by omega
 refine zu ?_;refine LoadV.mem hm (i:=0) rfl (by rw[t1,show 0+k*1=k by omega];exact qlj F aa) (zw ?_);have h1:w3.cell? ⟨b,(0+0+k*tsz DM 244)+1,none⟩=some (ii (tw l k:Nat)):=by rw[af];exact hc 1 _ rfl
 have h5:w3.cell? ⟨b,(0+0+k*tsz DM 244)+5,none⟩=some (.slice PP (qh l k).length cp):=by rw[af];exact hc 5 _ rfl
 refine zcv (qg8 b _ L H (tw l k) cp (F k) PP (qh l k) w3 h1 h5 al ak Oo Oo) ?_;rintro r w4 ⟨rfl,am⟩;replace hm:=hm.call am;have av:=(treD l).sr_le k (F k) (show L<=H by omega);obtain⟨e,ee⟩:∃e,e=(treD l).sr k L H (F k):=⟨_,rfl⟩
 have ev:(L+bsr (λi=>decide (F k<=(numP (qh l k) (tw l k) (L+i):Int))) (H-L) 0 (H-L))=e:=ee.symm;rw[ev];rw[<-ee]at av;have aw:(treD l).nu k e=numP (qh l k) (tw l k) e:=rfl;have ax:(treD l).ch k e=chB l k e:=rfl;unfold finD at eR;rw[eN,<-eH,<-eL,<-ee,aw,ax]at eR;have hx:∀wd,Ext w4.drew wd->Ext w3 wd:=λwd hd=>am.trans ((Ext.refl w4).drew.trans hd)
 (conv=>whnf);refine DrawV.free Jk Jk (zw ?_);(iterate 4 (refine zd ?_))
 rcases AN e H with an|an
 case inr=>
  rw[Ab (.inl an)]at eR;have hd:(decide ((H:Int)<=(e:Int)))=true:=(by grind)
  rw[hd];(iterate 8 (refine zd ?_));intro w5 ag;replace hm:=hm.drew.call ag;refine zu ?_;refine zcv (qgc b l k e w5 (h.ext hm.ext) ae hk Oo) ?_;rintro r w6 ⟨rfl,ad⟩;(conv=>whnf);exact⟨by rw[eR],hm.ext.trans ad⟩
 have hd:(decide ((H:Int)<=(e:Int)))=false:=(by grind)
 rw[hd];refine zd ?_;refine zd ?_;apply zsd (ii (numP (qh l k) (tw l k) e:Nat))
 ·intro wd hd;refine zu ?_;have ah:=hx wd hd;refine zcv (qca b _ e (tw l k) cp PP (qh l k) wd (ah.cell h1) (ah.cell h5) (al.ext ah) ak Oo) ?_
  simp_all
 (conv=>whnf);refine zd ?_;apply zsd (.pointer (some ⟨qb,k,none⟩))
 ·intro wd hd;refine zu ?_
  grind [Ext.refl]
 (conv=>whnf);apply zsd (ii (F k))
 ·intro wd hd;refine zu ?_;refine LoadV.own (Ext.get (Ext.trans (Ext.drew xr) hd) (hm.get (Aq.2 rfl))) (qlj F aa) (zw ?_);exact xq
 (conv=>whnf);refine zd ?_;refine zd ?_;intro w5 ag;replace hm:=hm.drew.call ag
 rcases BA (((numP (qh l k) (tw l k) e:Nat):Int)=F k)with ai|ai
 case inr=>
  rw[Ab (.inr ai)]at eR;refine zu ?_;refine zcv (qgc b l k e w5 (h.ext hm.ext) ae hk Oo) ?_;rintro r w6 ⟨rfl,ad⟩;(conv=>whnf);exact⟨by rw[eR],hm.ext.trans ad⟩
 rw[Aa (by rintro(g|g);omega;exact g ai)]at eR
 rcases AN k 3 with aj|aj
 case inr=>
  obtain rfl:k=3:=by omega
  refine zu ?_;exact⟨by rw[eR];rfl,hm.ext⟩
 obtain⟨m,em⟩:∃m,3-k=m+1:=⟨3-(k+1),by omega⟩
 rw[em]at eR;dsimp only at eR;obtain rfl:m=3-(k+1):=by omega
 have ao:=qw8 (i:=e) h.nn Oo (ae k aj);refine zu ?_;refine zcv (qde b l k e w5 (h.ext hm.ext) Oo Oo (ae k aj)) ?_;rintro r w6 ⟨rfl,ad⟩;refine zu ?_;exact⟨(k+1,(chB l k e).1,(chB l k e).2),⟨rfl,rfl,rfl,rfl,Ad (Value.int .i64) Oo,trivial⟩,⟨by omega,ao.1,ao.2,eR,hm.call ad⟩,by omega⟩
section
variable {J:DJ->DI}
theorem V.RowX.cut{e H n:Nat}{ws:DK}(h:RowX e H (.slice A m c) m (xs++ws) Y)(hx:xs.length=n*H)(hn:n<=m):RowX e H (.slice A n c) n xs Y:=by
 obtain⟨h1,⟨V,h2,h3⟩|⟨g,aa,cur,V,h3,h4,h5,h6,h7⟩⟩:=h
 ·injection V with V _ e2
  subst V e2 h2;obtain rfl:n=0:=by omega
  exact⟨hx,.inl ⟨rfl,rfl,h3⟩⟩
 ·injection V with V _ e2
  subst V e2;refine⟨hx,.inr ⟨g,c,cur,rfl,h3,by omega,h5,h6,?_⟩⟩
  grind [List.take_left]
end
theorem V.RowX.capd{e:DD}{H n:Nat}{v:DF}(h:RowX e H v n xs Y):∃A c,v=.slice A n c/\n<=c/\(n=0\/∃g,A=some ⟨g,0,none⟩):=by
 obtain⟨_,⟨rfl,rfl,_⟩|⟨g,V,cur,rfl,_,h3,_⟩⟩:=h
 all_goals grind
theorem V.RowX.cells{α:Type}{enc:α->DK}{e:Nat}(V:∀x,(enc x).length=sz){l:List α}(h:RowX e sz (.slice (some ⟨g,0,none⟩) l.length c) l.length (l.map enc).flatten Y)(hY:∀x∈Y,w.heap[x.1]?=some x.2):
  ∀(i:Nat) (x:α),l[i]?=some x->CellsAt w g (0+i*sz) (enc x):=by
 intro i x hi k u hu;obtain⟨_,⟨H,_⟩|⟨g',ae,cur,H,rfl,_,_,_,h5⟩⟩:=h
 ·simp_all
 injection H with H _ _
 injection H with H
 injection H with H
 subst H;have hk:k<sz:=by
  grind
 have ad:=(Ae.1 hi).1;have aa:=qeb enc sz V l i x k hi hk;have hb:(i+1)*sz<=l.length*sz:=B9 _ ad;rw[<-h5,Bv,Ab (by rw[CM]at hb;omega),hu]at aa;rw[qa (hY _ (Aq.2 rfl)),As]
 simpa using aa
theorem qem(w0:DA):Carr λX w=>Mem w0 w X:=
 ⟨λh H=>h.call H,λh V=>h.get V,λ_ h=>h.new rfl rfl,λo' h=>h.setO (i:=0) o' rfl rfl,λh=>h.sub Js,λh hp=>h.perm hp.symm⟩
theorem V.RowX.sl{α:Type}{enc:α->DK}{e n:Nat}{v:DF}(H:∀x,(enc x).length=sz){l:List α}(h:RowX e sz v n (l.map enc).flatten Y)(hn:l.length=n)(hY:∀x∈Y,w.heap[x.1]?=some x.2):
  ∃A c,v=.slice A n c/\n<=c/\SlAt enc sz w A l:=by
 subst hn;obtain⟨A,c,rfl,hc,hg⟩:=V.RowX.capd h;refine⟨A,c,rfl,hc,⟨λaa=>?_⟩⟩
 grind [V.RowX.cells]
namespace V
def ApJ3(J:DJ->DI)(W Y:DJ)(o:Obj)(R R2:DF->DJ->Prop)(s1 s2 s3:Bool)(v u x:DF)(w:DA):Prop:=
 (s1=false/\s2=false/\s3=false/\J (Y++W) w)\/
 (s1=true/\s2=false/\s3=false/\∃V,v=.slice (some ⟨V,0,none⟩) 1 1/\J ((V,o)::(Y++W)) w)\/
 (s1=true/\s2=true/\s3=false/\∃H,R u H/\J (H++W) w)\/
 (s1=true/\s2=true/\s3=true/\∃H,R2 x H/\J (H++W) w)
section
variable {J:DJ->DI} {W Y:DJ} {o:Obj} {R R2:DF->DJ->Prop} {s1 s2 s3:Bool} {v u x:DF} {w:DA}
theorem ApJ3.get(H:Carr J)(h:ApJ3 J W Y o R R2 s1 s2 s3 v u x w){y:Nat}{V:Obj}(hx:(y,V)∈W):w.heap[y]?=some V:=by
 rcases h with⟨_,_,_,h⟩|⟨_,_,_,_,_,h⟩|⟨_,_,_,_,_,h⟩|⟨_,_,_,_,_,h⟩
 ·exact H.get h (by grind)
 ·exact H.get h (by grind)
 ·exact H.get h (by grind)
 ·exact H.get h (by grind)
theorem ApJ3.laid(H:Carr J)(h:ApJ3 J W Y o R R2 false s2 s3 v u x w):ApJ3 J W Y o R R2 true s2 s3 (.slice (some ⟨w.heap.size,0,none⟩) 1 1) u x (w.alloc o):=by
 rcases h with⟨_,V,h3,h⟩|⟨h,_⟩|⟨h,_⟩|⟨h,_⟩
 ·exact .inr (.inl ⟨rfl,V,h3,_,rfl,H.new o h⟩)
 all_goals simp_all
theorem ApJ3.ready(h:ApJ3 J W Y o R R2 true false s3 v u x w):s3=false/\∃H,v=.slice (some ⟨H,0,none⟩) 1 1/\J ((H,o)::(Y++W)) w:=by
 rcases h with⟨h,_⟩|⟨_,_,V,h⟩|⟨_,h,_⟩|⟨_,h,_⟩
 all_goals simp_all
theorem ApJ3.put(h:ApJ3 J W Y o R R2 s1 true false v u x w):s1=true/\∃H,R u H/\J (H++W) w:=by
 rcases h with⟨_,h,_⟩|⟨_,h,_⟩|⟨V,_,_,h⟩|⟨_,_,h,_⟩
 all_goals simp_all
theorem ApJ3.done(h:ApJ3 J W Y o R R2 s1 s2 true v u x w):∃H,R2 x H/\J (H++W) w:=by
 rcases h with⟨_,_,h,_⟩|⟨_,_,h,_⟩|⟨_,_,h,_⟩|⟨_,_,_,h⟩
 all_goals simp_all
end
end V
def wilF(P:Nat->Int):Nat->Nat
 | 0=>0
 | k+1=>if P k<0 then wilF P k else k+1
theorem qwm(P:Nat->Int):∀k,wilF P k<=k
 | 0=>Ai _
 | k+1=>by
  have:=qwm P k;rw[wilF]
  split<;>omega
theorem qq7{P:Nat->Int}:∀{k j:Nat},wilF P k<=j->j<k->P j<0
 | 0,j,_,h=>Oo
 | k+1,j,H,h2=>by
  rw[wilF]at H
  split at H
  ·rename_i V
   rcases AN j k with g|g
   ·exact qq7 H g
   ·obtain rfl:j=k:=by omega
    exact V
  ·omega
theorem q6v(P:Nat->Int)(w:DA):Gv DM 126 [.agg #[ii (P 0),ii (P 1),ii (P 2),ii (P 3)]] w λr w'=>r=ii (wilF P 4:Nat)/\Ext w w':=by
 have t1:tsz DM 3=1:=by kernel_rfl
 obtain⟨R,H⟩:∃R,R=wilF P 4:=⟨_,rfl⟩
 rw[<-H];refine ze Tryz.func126 Tryz.ntmps126 ?_;refine znm (Mem.nil w) ?_;intro qb w1 V;have V:Mem w w1 [(qb,.cells (idC P).toArray 95)]:=V;(conv=>whnf);refine qq (λk:Nat=>[(1,pp qb),(3,ii k)]) (λk w'=>k<=4/\R=wilF P k/\Mem w w' [(qb,.cells (idC P).toArray 95)]) (λk=>k) 4 fq ⟨Ai _,H,V⟩ ?_;clear V H;rintro k w2 aa ⟨hk,H,V⟩
 rcases Bk k with h0|h0
 case inl=>
  subst h0;refine zu ?_;exact⟨by rw[H];rfl,V.ext⟩
 obtain⟨m,rfl⟩:∃m,k=m+1:=⟨k-1,by omega⟩
 rw[wilF]at H;refine zu ?_;refine IdxV.at_ m Oo Oo (zu ?_);refine LoadV.own (V.get (Aq.2 rfl)) (by rw[t1,show 0+m*1=m by omega];exact qlj P Oo) ?_
 rcases Dv (P m) 0 with hn|hn
 ·rw[Ab hn]at H;refine zu ?_;exact⟨m,⟨rfl,Ad (Value.int .i64) Oo,trivial⟩,(by grind),by omega⟩
 ·rw[Aa Oo]at H;refine zu ?_;exact⟨by rw[H],V.ext⟩
def tcnt(l:LB)(P:Nat->Int):Nat:=cntD (treD l) (vNum l 3) (tmaR l P).length (wilF P 4) P (wilF P 4) 0 0 (vNum l 0)
theorem qvz(T:LvD)(N:Nat):∀(f k i:Nat),staD T N f k i<=N
 | 0,k,i=>Nat.min_le_right ..
 | f+1,k,i=>by
  rw[staD]
  split
  ·exact Ai _
  ·exact qvz T N f _ _
theorem qaab{Q:Nat->Nat->Nat}{n:Nat}(h:TOk Q n)(P:Nat->Int):tcnt (qz Q n) P=(maT P Q 0 0 n).length:=by
 have V:vNum (qz Q n) 3=n:=by rw[h.vNum Od,h.all Oo]
 have hl:(tmaR (qz Q n) P).length=(maT P Q 0 0 n).length:=by rw[<-h.mtch (q:=λ_=>0),A6];rfl
 rw[tcnt,hl,V]
 rcases Bk (wilF P 4)with H|H
 ·rw[H,cntD,qjp Od (λj _ hj=>qq7 Oo hj)];rfl
 ·refine qact h h.canD (qwm P 4) (by grind [qq7]) H Oo ?_ ?_
  ·rw[h.vNum Od];exact h.winT
  ·rw[h.vNum Od];exact Ad List.length h.lvM_all
theorem q1h(b:Nat)(l:LB)(P:Nat->Int)(w:DA)(h:TreeAt w b l)(ae:VmOk l)(hP:∀k,k<4->InR .i64 (P k))(be:(tmaR l P).length<=1048576):
  Gv DM 62 [pp b,.agg #[ii (P 0),ii (P 1),ii (P 2),ii (P 3)]] w λr w'=>r=ii (tcnt l P:Nat)/\Ext w w':=by
 have t8:tsz DM 244=8:=by kernel_rfl
 have t1:tsz DM 3=1:=by kernel_rfl
 obtain⟨W,eW⟩:∃W,W=wilF P 4:=⟨_,rfl⟩
 have bh:W<=4:=by grind [qwm]
 obtain⟨Z,eZ⟩:∃Z,Z=(tmaR l P).length:=⟨_,rfl⟩
 obtain⟨R,eR⟩:∃R:Nat,R=tcnt l P:=⟨_,rfl⟩
 rw[<-eR];rw[tcnt,<-eW,<-eZ]at eR;have h3:=h.n 3 Od;refine gvW Jk Tryz.func62 rfl Tryz.ntmps62 rfl (zw ?_);refine znm (Mem.nil w) ?_;intro qb w1 hm;obtain⟨qo,am⟩:∃qo:Obj,qo=.cells (idC P).toArray 95:=⟨_,rfl⟩
 have hm:Mem w w1 [(qb,qo)]:=by rw[am];exact hm
 have af:∀L w',Mem w w' (L++[(qb,qo)])->w'.heap[qb]?=some (.cells (idC P).toArray 95):=λL w' h=>by rw[<-am];exact h.get (Ac _ (Aq.2 rfl))
 (conv=>whnf);refine LoadA.own (af [] _ hm) rfl (zw ?_);refine zcv (q6v P w1) ?_;rintro r w2 ⟨rfl,ax⟩;rw[<-eW];replace hm:=hm.call ax;(conv=>whnf);refine DrawW.any Jk (.inl rfl) (AnyV.free Jk ?_);(conv=>whnf);(iterate 3 (refine zd ?_));refine zf ?_ (by intro wd hd;(conv=>whnf);refine zJ 0 ?_;(conv=>whnf);exact xq);refine zd ?_;refine zsd (ii (vNum l 0:Nat)) (λwd hd=>zw ?_) (zw ?_)
 ·obtain⟨PP,cp,S,cs,VV,hc,_⟩:=((h.ext hm.ext).lv 0 Oo).h;refine LoadV.cellsE (hc.ext (Ext.trans (Ext.drew xr) hd)) 0 Js rfl (zw ?_);exact xq
 refine zd ?_;refine zd ?_;intro w3 ay;replace hm:=hm.drew.call ay;(conv=>whnf);refine q84 (λx:Nat×Nat×Nat=>[(0,pp b),(3,pp qb),(5,ii W),(6,ii x.2.1),(7,ii x.2.2),(20,ii W),(21,ii x.1)])
  (λx w'=>x.1<=W/\x.2.1<=1048576/\x.2.2<=1048576/\R=cntD (treD l) (vNum l 3) Z W P (W-x.1) x.1 x.2.1 x.2.2/\Mem w w' [(qb,qo)]) (λx=>W-x.1) (0,0,vNum l 0)
  fq ⟨Af _,Af _,h.n 0 Od,eR,hm⟩ ?_
 clear hm eR;rintro⟨k,lo,hi⟩ w4 bi ⟨hk,az,a0,eR,hm⟩;dsimp only at hk az a0 eR hm|-
 rcases AN k W with a1|a1
 case inr=>
  obtain rfl:k=W:=by omega
  rw[BD,cntD]at eR;refine zu ?_;refine zcv (qid b l w4 (h.ext hm.ext)) ?_;rintro r w5 ⟨rfl,rfl⟩;(conv=>whnf);exact⟨by rw[eR],hm.ext⟩
 have ad:k<4:=by omega
 have bj:=h.n k ad;have an:=h.wd k ad;obtain⟨PP,cp,S,cs,VV,hc,ao,_⟩:=((h.ext hm.ext).lv k ad).h;obtain⟨m,em⟩:∃m,W-k=m+1:=⟨W-(k+1),by omega⟩
 rw[em,cntD,Aa Oo]at eR;refine zu ?_;refine LoadV.own (af [] _ hm) (by rw[t1,show 0+k*1=k by omega];exact qlj P ad) ?_
 rcases Dv (P k) 0 with hn|hn
 case inl=>
  rw[Ab hn]at eR;refine zu ?_;have cM:=qem w;refine NewV.carr cM hm λnb w5 hm=>zw ?_;refine StoreV.carr cM (A:=[]) hm Js rfl ?_;clear hm;intro w6 hm;have hm:Mem w w6 ([(nb,.cells #[ii 0] 3)]++[(qb,qo)]):=hm;(conv=>whnf);refine LoadA.own (af _ _ hm) rfl (zw ?_);refine zcv (qof b P w6) ?_;rintro r w7 ⟨c1,c2,rfl,a2⟩;replace hm:=cM.call hm a2;obtain⟨L,hL⟩:∃L:DJ,L=[(c2,.cells #[ii (P 0),ii (P 1),ii (P 2),ii (P 3)] 95),(c1,.cells #[pp b] 141)]:=⟨_,rfl⟩
  have hm:Mem w w7 ([]++((nb,.cells #[ii (0:Nat)] 3)::(L++[(qb,qo)]))):=by
   rw[hL];refine hm.perm ?_
   simpa using(Bb (a:=(nb,Obj.cells #[ii 0] 3)) (l₁:=[(c2,Obj.cells #[ii (P 0),ii (P 1),ii (P 2),ii (P 3)] 95),(c1,Obj.cells #[pp b] 141)]) (l₂:=[(qb,qo)])).symm
  have a3:(c1,Obj.cells #[pp b] 141)∈L:=by rw[hL];simp
  have a4:(c2,Obj.cells #[ii (P 0),ii (P 1),ii (P 2),ii (P 3)] 95)∈L:=by rw[hL];simp
  have a5:((tmaR l P).map mRow).length=Z:=by simp_all
  have cJ:∀k:Nat,Carr λX w'=>Mem w w' (X++((nb,.cells #[ii k] 3)::(L++[(qb,qo)]))):=λk=>cM.tail _
  (conv=>whnf);refine qyi (Φ:=λw=>TmaΦ b l c1 c2 w/\qab8 P c2 w) (lb:=[pp c1,pp c2]) (xs:=(tmaR l P).map mRow) rfl Jk (qog b l P c1 c2 ae hP) Od ?_
   (λk X w'=>Mem w w' (X++((nb,.cells #[ii k] 3)::(L++[(qb,qo)])))) (λc k X w'=>False/\Mem w w' (X++((nb,.cells #[ii k] 3)::(L++[(qb,qo)]))))
   cJ (λc k=>Carr.and (cJ k))
   (λk X w' hh=>⟨⟨h.ext hh.ext,by rw[qa (hh.get (Ac _ (zmc (Ah _ a3))))];rfl⟩,λj v hv=>by rw[qa (hh.get (Ac _ (zmc (Ah _ a4)))),As,<-hv];simp⟩) hm ?_ ?_ ?_
  ·intro r hr;obtain⟨j,_,rfl⟩:=AA.1 hr;rfl
  ·rintro l2 D od k2 r X w8 w9 hr hJ;have bk:k2<Z:=by grind
   rw[Ao]at hr;cases aq:(tmaR l P)[k2]? with
   | none=>simp_all
   | some row=>
   rw[aq,Be,AI]at hr;subst hr;(conv=>whnf);refine⟨rfl,rfl,?_⟩;(conv=>whnf);refine LoadV.own (hJ.get (Ac ((l2,od)::(D,.deferred (some []))::X) mh)) rfl (zu ?_);refine StoreV.carr cM (A:=(l2,od)::(D,.deferred (some []))::X) hJ Js rfl λbl hJ=>zw ?_;exact hJ
  ·rintro D w8 hJ;rw[a5]at hJ;(conv=>whnf);refine LoadV.own (hJ.get (Ac _ mh)) rfl (zw ?_);refine LeaveV.marks (J:=λX w'=>Mem w w' (X++((nb,.cells #[ii Z] 3)::(L++[(qb,qo)])))) (cJ Z) ?_ (D:=D) (Ds:=[]) hJ;intro w' h';(conv=>whnf);exact⟨by rw[eR],h'.ext⟩
  simp
 rw[Aa Oo]at eR;obtain⟨H,eH⟩:∃H,H=min hi (vNum l k):=⟨_,rfl⟩
 obtain⟨L,eL⟩:∃L,L=min lo H:=⟨_,rfl⟩
 have eN:(treD l).N k=vNum l k:=rfl;have ag:0+0+k*tsz DM 244=8*k:=by rw[t8];omega
 refine zu ?_;refine LoadV.cellsE hc 0 Oo rfl (zw ?_);refine V.Fall.min2 rfl rfl rfl λm bm=>?_;obtain rfl:m=(H:Int):=by omega
 (conv=>whnf);refine V.Fall.min2 rfl rfl rfl λm bn=>?_;obtain rfl:m=(L:Int):=by omega
 refine zu ?_;refine LoadV.own (af [] _ hm) (by rw[t1,show 0+k*1=k by omega];exact qlj P ad) (zw ?_);have h1:w4.cell? ⟨b,(0+0+k*tsz DM 244)+1,none⟩=some (ii (tw l k:Nat)):=by rw[ag];exact hc 1 _ rfl
 have h5:w4.cell? ⟨b,(0+0+k*tsz DM 244)+5,none⟩=some (.slice PP (qh l k).length cp):=by rw[ag];exact hc 5 _ rfl
 refine zcv (qg8 b _ L H (tw l k) cp (P k) PP (qh l k) w4 h1 h5 ao an Oo Oo) ?_;rintro r w5 ⟨rfl,ar⟩;replace hm:=hm.call ar;have a6:=(treD l).sr_le k (P k) (show L<=H by omega);obtain⟨e,ee⟩:∃e,e=(treD l).sr k L H (P k):=⟨_,rfl⟩
 have ev:(L+bsr (λi=>decide (P k<=(numP (qh l k) (tw l k) (L+i):Int))) (H-L) 0 (H-L))=e:=ee.symm;rw[ev];rw[<-ee]at a6;have a7:(treD l).nu k e=numP (qh l k) (tw l k) e:=rfl;have a8:(treD l).ch k e=chB l k e:=rfl;rw[eN,<-eH,<-eL,<-ee,a7,a8]at eR;have hx:∀wd,Ext w5.drew wd->Ext w4 wd:=λwd hd=>ar.trans ((Ext.refl w5).drew.trans hd)
 (conv=>whnf);refine DrawW.any Jk (.inl rfl) (AnyV.free Jk ?_);(conv=>whnf);(iterate 4 (refine zd ?_))
 rcases AN e H with au|au
 case inr=>
  rw[Ab (.inl au)]at eR;have hd:(decide ((H:Int)<=(e:Int)))=true:=(by grind)
  rw[hd];(iterate 8 (refine zd ?_));intro w6 ah;replace hm:=hm.drew.call ah;refine zu ?_;exact⟨by rw[eR];rfl,hm.ext⟩
 have hd:(decide ((H:Int)<=(e:Int)))=false:=(by grind)
 rw[hd];refine zd ?_;refine zd ?_;apply zsd (ii (numP (qh l k) (tw l k) e:Nat))
 ·intro wd hd;refine zu ?_;have ai:=hx wd hd;refine zcv (qca b _ e (tw l k) cp PP (qh l k) wd (ai.cell h1) (ai.cell h5) (ao.ext ai) an Oo) ?_
  grind
 (conv=>whnf);refine zd ?_;apply zsd (.pointer (some ⟨qb,k,none⟩))
 ·intro wd hd;refine zu ?_
  grind [Ext.refl]
 (conv=>whnf);apply zsd (ii (P k))
 ·intro wd hd;refine zu ?_;refine LoadV.own (Ext.get (Ext.trans (Ext.drew xr) hd) (af [] _ hm)) (qlj P ad) (zw ?_);exact xq
 (conv=>whnf);refine zd ?_;refine zd ?_;intro w6 ah;replace hm:=hm.drew.call ah
 rcases BA (((numP (qh l k) (tw l k) e:Nat):Int)=P k)with aj|aj
 case inr=>
  rw[Ab (.inr aj)]at eR;refine zu ?_;exact⟨by rw[eR];rfl,hm.ext⟩
 rw[Aa (by rintro(g|g);omega;exact g aj)]at eR
 rcases AN k 3 with ak|ak
 case inr=>
  obtain rfl:k=3:=by omega
  rw[Ab rfl]at eR;refine zu ?_;exact⟨by rw[eR];rfl,hm.ext⟩
 rw[Aa Oo]at eR
 rcases BA (k+1=W)with aa|aa
 case inl=>
  rw[Ab aa]at eR;refine zu ?_;refine zcv (qgc b l k (e+1) w6 (h.ext hm.ext) ae Oo Oo) ?_;rintro r w7 ⟨rfl,al⟩;replace hm:=hm.call al;obtain⟨y1,a9⟩:∃y1,y1=staD (treD l) (vNum l 3) (3-k) k (e+1):=⟨_,rfl⟩
  obtain⟨y0,av⟩:∃y0,y0=staD (treD l) (vNum l 3) (3-k) k e:=⟨_,rfl⟩
  have ba:=qvz (treD l) (vNum l 3) (3-k) k (e+1);have bb:=qvz (treD l) (vNum l 3) (3-k) k e;rw[<-a9]at ba eR|-;rw[<-av]at bb eR;(conv=>whnf);refine zcv (qgc b l k e w7 (h.ext hm.ext) ae Oo Oo) ?_;rintro r w8 ⟨rfl,bd⟩;rw[<-av];replace hm:=hm.call bd;refine zu ?_;refine V.Fall.max2 rfl rfl rfl λm bo=>?_
  (conv=>whnf);exact⟨by grind,hm.ext⟩
 rw[Aa aa]at eR;obtain rfl:m=W-(k+1):=by omega
 have aw:=qw8 (i:=e) h.nn Oo (ae k ak);refine zu ?_;refine zcv (qde b l k e w6 (h.ext hm.ext) Oo Oo (ae k ak)) ?_;rintro r w7 ⟨rfl,al⟩;refine zu ?_;exact⟨rfl,(k+1,(chB l k e).1,(chB l k e).2),⟨rfl,rfl,rfl,rfl,rfl,rfl,Ad (Value.int .i64) Oo,trivial⟩,⟨by omega,aw.1,aw.2,eR,hm.call al⟩,by omega⟩
structure GlobS(w:DA):Prop where
 M:MaxLenAt w
 T:CellsAt w 4 0 qb3
 K:qk7 w
theorem GlobS.ext(h:GlobS w)(H:Ext w w'):GlobS w':=⟨h.M.ext H,CellsAt.ext h.T H,CellsAt.ext h.K H⟩
def sRow(qs:List Q4)(i:Nat):DK:=[ii i,q4 (qs.getD i zQ)]
structure IdxE(w:DA)(x pb vb tb:Nat)(l:LB):Prop where
 c:w.cell? ⟨x,0,none⟩=some (pp pb)
 b:w.heap[pb]?=some (.cells #[ii (hN l 2),ii (hN l 3),ii (hN l 4),ii (hN l 5),pp vb,pp tb] 241)
 v:VocAt w vb (qi l)
 t:TreeAt w tb (qk l)
theorem IdxE.ext{x:Nat}(h:IdxE w x pb vb tb l)(H:Ext w w'):IdxE w' x pb vb tb l:=⟨H.cell h.c,H.get h.b,h.v.ext H,h.t.ext H⟩
theorem IdxE.pk{x:Nat}(h:IdxE w x pb vb tb l):PackAt w pb l:=⟨vb,tb,h.b,h.v,h.t⟩
theorem IdxE.at_{x:Nat}(h:IdxE w x pb vb tb l):IdxAt w x l:=⟨pb,h.c,h.pk⟩
theorem IdxAt.e{x:Nat}(h:IdxAt w x l):∃pb vb tb,IdxE w x pb vb tb l:=by
 obtain⟨pb,H,vb,tb,V,h3,h4⟩:=h;exact⟨pb,vb,tb,H,V,h3,h4⟩
theorem qew(b tb:Nat)(H V a2 a3 a4:DF)(w:DA)(h:w.heap[b]?=some (.cells #[H,V,a2,a3,a4,pp tb] 241)):Gv DM 61 [pp b] w λv w'=>v=pp tb/\w'=w:=by
 refine ze Tryz.func61 Tryz.ntmps61 ?_;refine LoadV.own h rfl (zw ?_);exact⟨rfl,rfl⟩
structure SmaΦ(x pb vb tb:Nat)(T:List TM)(qs:List Q4)(p:Q4)(b1 b2:Nat)(w:DA):Prop where
 X:IdxE w x pb vb tb (encP T qs)
 G:GlobS w
 c1:w.cell? ⟨b1,0,none⟩=some (pp x)
 c2:CellsAt w b2 0 (qm p)
theorem qje(x:Nat)(p:Q4)(w:DA):Gv DM 63 [pp x,q4 p] w λr w'=>
  ∃b1 b2,r=.func (.func 132) #[] #[pp b1,pp b2]/\Mem w w' [(b2,.cells (qm p).toArray 47),(b1,.cells #[pp x] 26)]:=by
 refine ze Tryz.func63 Tryz.ntmps63 ?_;refine znm (Mem.nil w) λb1 w1 H=>zw ?_;refine znm H λb2 w2 H=>zw ?_;exact⟨b1,b2,rfl,H⟩
section
variable {T:List TM} {qs:List Q4} (h:EncOk T qs)
include h
theorem EncOk.pq{q:Q4}(hi:qs[i]?=some q):qfs (encP T qs) i=.tuple #[q4 q,.bool true]:=by
 have V:=(Ae.1 hi).1;have e4:q4Of (qi (encP T qs)) (qIds (encP T qs) i)=q:=h.quad4 hi;have hE:(toE (qk (encP T qs))).2=0:=by rw[h.t];exact h.set.tok.toE
 have H:PqOk (encP T qs) i:=⟨⟨by rw[h.n];exact V,qae6 (qbq hE) (by rw[h.n];exact V)⟩,(λj hj g=>by
  rw[show qIds (encP T qs) i j=tNum (qk (encP T qs)) i j from rfl,h.told hi hj]at g;cases g),by rw[e4];exact h.quad _ (zmg hi)⟩
 rw[qfs,Ab H,e4]
theorem EncOk.tma{p:Q4}(H:KnQ T p):(tmaR (qk (encP T qs)) (idP T p)).map (·.1)=qbe p qs:=by
 have V:∀q∈qs,∀k,k<4->gat q k∈T\/gat q k=zTM:=λq hq k hk=>(h.set.mem q hq k hk).imp id λg=>g.2.2
 rw[tmaR,h.t,h.set.tok.mtch];exact qls h.set.rise (λt ht=>(h.kinds t ht).1) V (λ_ _=>rfl) H
theorem EncOk.tmaN{p:Q4}(H:¬KnQ T p):qbe p qs=[]:=by
 have V:∀q∈qs,∀k,k<4->gat q k∈T\/gat q k=zTM:=λq hq k hk=>(h.set.mem q hq k hk).imp id λg=>g.2.2
 obtain⟨k,hk⟩:=Classical.not_forall.1 H;obtain⟨h4,hk⟩:=Classical.not_imp.1 hk;exact q40 V h4 hk
theorem EncOk.vms:∀k,k<3->tVec (qk (encP T qs)) (k+1)=true->vM (qf (qk (encP T qs)) (k+1))<=vN (qf (qk (encP T qs)) (k+1)):=λk hk _=>by
 rw[h.t];obtain⟨_,H,V,_⟩:=h.set.tok.vec (k:=k) Oo;rw[H,V];exact q4e k _
end
theorem q88{p:Q4}(h:i∈qbe p qs):∃q,qs[i]?=some q/\fitQ p q=true:=by
 rw[qbe,By]at h;obtain⟨V,H⟩:=h;have:=BB.1 V;refine⟨qs[i],zge this,?_⟩;rw[zge this]at H;exact H
theorem qjf(T:List TM)(qs:List Q4)(h:EncOk T qs)(x pb vb tb:Nat)(p:Q4)(hp:qcl p)(hP:∀k,k<4->InR .i64 (idP T p k))(b1 b2:Nat):
  SeqC DM 132 [pp b1,pp b2] ((qbe p qs).map (sRow qs)) (SmaΦ x pb vb tb T qs p b1 b2):=by
 intro y I Ix w cI aa hI H hy;have ae:((qbe p qs).map (sRow qs)).length=(qbe p qs).length:=A6 ..;refine gvW Jk Tryz.func132 rfl Tryz.ntmps132 rfl (zw ?_);refine NewV.carr (cI 0) H λyb w1 H=>zw ?_;refine LoadV.of (hI _ _ _ H).c1 (zw ?_);refine LoadA.cells (hI _ _ _ H).c2 rfl (zw ?_);refine zcv (qql T qs h x p hp w1 (hI _ _ _ H).X.at_ (hI _ _ _ H).G.M (hI _ _ _ H).G.T) ?_;rintro r w2 ⟨rfl,ak⟩;replace H:=(cI 0).ext H ak
 by_cases hK:KnQ T p
 case neg=>
  rw[qey,Aa hK];(conv=>whnf);refine NewV.carr (cI 0) H λib w3 H=>zw ?_;refine StoreA.carr (cI 0) (A:=[]) H rfl Od λw4 H=>zu ?_;refine .inl ?_;rw[ae,h.tmaN hK];exact(cI 0).drop ((cI 0).drop H)
 rw[qey,Ab hK];(conv=>whnf);refine NewV.carr (cI 0) H λib w3 H=>zw ?_;refine StoreA.carr (cI 0) (A:=[]) H rfl (by simp[Value.oneCell']) λw4 H=>zu ?_;refine DrawW.tail 6 Jk Jk (.inl rfl) (AnyV.free Jk ?_);(conv=>whnf);refine zf ?_ (by intro wd hd;(conv=>whnf);refine LoadV.of (Ext.cell (Ext.trans (Ext.drew xr) hd) (hI _ _ _ H).c1) ?_;(conv=>whnf);exact xq);refine zd ?_;refine zd ?_;refine zf ?_ (by intro wd hd;(conv=>whnf);refine LoadV.of (Ext.cell (Ext.trans (Ext.drew xr) hd) (hI _ _ _ H).X.c) ?_;(conv=>whnf);exact xq);refine zsd (pp tb) (λwd hd=>zw ?_) (zw ?_)
 ·refine zcv (qew pb tb _ _ _ _ _ wd (Ext.get (Ext.trans (Ext.drew xr) hd) (hI _ _ _ H).X.b)) ?_;rintro r w5 ⟨rfl,rfl⟩;exact xq
 refine zsd (.agg #[ii (idP T p 0),ii (idP T p 1),ii (idP T p 2),ii (idP T p 3)]) (λwd hd=>zw ?_) (zw ?_)
 ·refine LoadA.own (Ext.get (Ext.trans (Ext.drew xr) hd) ((cI 0).get H mh)) rfl (zw ?_);exact xq
 intro w5 al;replace H:=(cI 0).ext H (Ext.trans (Ext.drew xr) al);(conv=>whnf);refine zcv (qof tb (idP T p) w5) ?_;rintro r w6 ⟨c1,c2,rfl,am⟩;replace H:=(cI 0).call H am;(conv=>whnf);obtain⟨L,hL⟩:∃L:DJ,L=[(c2,.cells #[ii (idP T p 0),ii (idP T p 1),ii (idP T p 2),ii (idP T p 3)] 95),(c1,.cells #[pp tb] 141),(ib,.cells #[ii (idP T p 0),ii (idP T p 1),ii (idP T p 2),ii (idP T p 3)] 95),(yb,.cells #[.func (.yield y) #[] #[]] 150)]:=⟨_,rfl⟩
 have V:I 0 ([]++L) w6:=by rw[hL];exact H
 clear H;have af:∀(X:DJ),(c2,Obj.cells #[ii (idP T p 0),ii (idP T p 1),ii (idP T p 2),ii (idP T p 3)] 95)∈X++L/\(c1,Obj.cells #[pp tb] 141)∈X++L/\(yb,Obj.cells #[.func (.yield y) #[] #[]] 150)∈X++L:=λX=>by
  rw[hL];refine⟨?_,?_,?_⟩<;>simp
 have ag:((tmaR (qk (encP T qs)) (idP T p)).map mRow).length=(qbe p qs).length:=by
  rw[A6,<-h.tma hK,A6]
 refine qyi (Φ:=λw=>TmaΦ tb (qk (encP T qs)) c1 c2 w/\qab8 (idP T p) c2 w) (lb:=[pp c1,pp c2]) (xs:=(tmaR (qk (encP T qs)) (idP T p)).map mRow) rfl Jk (qog tb (qk (encP T qs)) (idP T p) c1 c2 h.vms hP) Od ?_
  (λk X w'=>I k (X++L) w') (λc k X w'=>∃_:PLift (c=.ret),Ix k (X++L) w')
  (λk=>(cI _).tail _) (λc k=>Carr.any λ_=>(aa _).tail _)
  (λk X w' hh=>⟨⟨(hI _ _ _ hh).X.t,by rw[qa ((cI _).get hh (af X).2.1)];rfl⟩,λj v hv=>by rw[qa ((cI _).get hh (af X).1),As,<-hv];simp⟩) V ?_ ?_ ?_
 ·intro r hr;obtain⟨j,_,rfl⟩:=AA.1 hr;rfl
 ·rintro l2 D od k r X w7 w8 hr V;rw[Ao]at hr;cases ad:(tmaR (qk (encP T qs)) (idP T p))[k]? with
  | none=>rw[ad]at hr;cases hr
  | some row=>
  rw[ad,Be,AI]at hr;subst hr;have ah:(qbe p qs)[k]?=some row.1:=by rw[<-h.tma hK,Ao,ad];rfl
  obtain⟨q,hq,ai⟩:=q88 (zmg ah);have av:=(Ae.1 hq).1;have au:=h.set.len;(conv=>whnf);refine⟨rfl,rfl,?_⟩;(conv=>whnf);refine LoadV.of (hI _ _ _ V).c1 (zw ?_);refine LoadV.of (hI _ _ _ V).X.c (zw ?_);refine zcv (qsn pb (encP T qs) row.1 w8 (hI _ _ _ V).X.pk Oo (hI _ _ _ V).G.M (hI _ _ _ V).G.T (hI _ _ _ V).G.K) ?_;rintro r w9 ⟨rfl,an⟩;replace V:=(cI k).ext V an;rw[h.pq hq];(conv=>whnf);refine NewV.carr (cI k) V λnb aw V=>zw ?_;refine StoreA.carr (vs:=qm q) (cI k) (A:=[]) V rfl (qcj q) λao V=>zu ?_;refine LoadA.cells (vs:=qm p) (hI _ _ _ V).c2 rfl (zu ?_);refine LoadA.own ((cI k).get V mh) rfl (zu ?_);refine zcv (q6p p q ao) ?_;rintro r aq ⟨rfl,aj⟩;replace V:=(cI k).ext V aj;rw[ai];refine zu ?_;refine LoadV.carr (cI k) V (zmc (af _).2.2) rfl (zu ?_);refine LoadA.own ((cI k).get V mh) rfl (zu ?_);have ar:((qbe p qs).map (sRow qs))[k]?=some [ii row.1,q4 q]:=by
   have e:qs.getD row.1 zQ=q:=by rw[Ag,hq];rfl
   rw[Ao,ah,Be,sRow,e]
  refine YieldV.mono (hy k _ _ aq ar V) ?_;clear V;rintro v ax (⟨rfl,V⟩|⟨rfl,hX⟩)
  ·refine zu ?_;exact(cI _).drop V
  ·refine zu ?_;exact⟨⟨rfl⟩,(aa _).drop hX⟩
 ·rintro D w7 V;rw[ag]at V;(conv=>whnf);refine LeaveV.marks (J:=λX w'=>I (qbe p qs).length X w') (cI _) ?_ (D:=D) (Ds:=[]) ((cI _).dropL ((cI _).perm V Ap));intro w' h';(conv=>whnf);exact .inl (by rw[ae];exact h')
 ·rintro D c k w7 hk ⟨⟨rfl⟩,hX⟩;rw[ag]at hk;(conv=>whnf);refine LeaveV.marks (J:=λX w'=>Ix k X w') (aa _) ?_ (D:=D) (Ds:=[]) ((aa _).dropL ((aa _).perm hX Ap));intro w' h';(conv=>whnf);exact .inr ⟨k,by rw[ae];exact hk,h'⟩
def idF(T:List TM)(q:Q4)(i j:Nat):Int:=if j<i then(noT T (gat q j):Nat)else 0
def gQ(q:Q4):Q4:=⟨q.g,q.s,q.p,q.o⟩
theorem qaf2(q:Q4)(hk:k<4):(gQ q).at k=gat q k:=by
 rcases(show k=0\/k=1\/k=2\/k=3 by omega)with rfl|rfl|rfl|rfl<;>rfl
theorem qada(T:List TM)(q:Q4)(H:i<4):(fnA 4 (inF (idF T q i))).setIfInBounds i (ii (noT T (gat q i):Nat))=fnA 4 (inF (idF T q (i+1))):=by
 rw[qiy];refine qfe λj V=>?_
 by_cases e:j=i
 ·subst e;rw[qb1,inF,idF,Ab (Dl _)]
 ·rw[qad _ _ _ _ e,inF,inF,idF,idF]
  congr 1
  by_cases h:j<i
  ·rw[Ab h,Ab Oo]
  ·rw[Aa h,Aa Oo]
theorem q27{p t:TM}(h:p.kind≠4):fitT p t=true↔p=t:=by
 grind [fitT,q7]
theorem qug{p q:Q4}(h:∀k,k<4->(gat p k).kind≠4):fitQ p q=true↔p=q:=by
 rw[qpc];simp only[AF]
 constructor
 ·rintro⟨H,V,h2,h3⟩;refine qui λk hk=>?_
  grind [q27]
 grind [q27]
theorem qhs{p:Q4}:i∈qbe p qs↔∃q,qs[i]?=some q/\fitQ p q=true:=by
 grind [qbe]
theorem q41{p:Q4}(h:∀k,k<4->(gat p k).kind≠4):(qbe p qs=[]↔p∉qs)/\∀i,qbe p qs=[i]->qs[i]?=some p:=by
 constructor
 ·constructor
  ·intro e H;obtain⟨i,hi⟩:=AT.1 H;have:i∈qbe p qs:=(by grind [qhs,qug])
   simp_all
  ·intro H;refine Dj.2 λi hi=>?_
   grind [qhs,qug]
 ·intro i e;obtain⟨q,V,hf⟩:=qhs.1 (show i∈qbe p qs by rw[e];exact Aq.2 rfl)
  grind [qug]
theorem q89(p:Q4)(qs:List Q4):(qbe p qs).length=(qs.filter (fitQ p)).length:=by
 rw[<-qz4];have:∀(L:DL),(∀i∈L,∃q,qs[i]?=some q)->(L.filterMap λi=>qs[i]?).length=L.length:=by
  intro L
  induction L<;>grind [List.mem_cons_self]
 grind [qhs]
section
variable {α:Type} {c:α->α->Int}
def ledC(c:α->α->Int)(t:α):List α->Nat
 | []=>0
 | x::L=>if c x t<0 then ledC c t L+1 else 0
def insC(c:α->α->Int)(t:α):List α->List α
 | []=>[t]
 | x::L=>if c x t<0 then x::insC c t L else if c x t=0 then x::L else t::x::L
def qcm(c:α->α->Int)(V:List α):List α:=V.foldl (λH t=>insC c t H) []
theorem q4i(t:α):∀L:List α,ledC c t L<=L.length
 | []=>Ai _
 | x::L=>by
  rw[ledC];have:=q4i t L
  split
  ·simpa using this
  ·exact Af _
theorem q4j(t:α):∀{L:List α} {k:Nat} {x:α},k<ledC c t L->L[k]?=some x->c x t<0
 | [],k,x,hk,_=>(by grind)
 | y::L,k,x,hk,H=>by
  rw[ledC]at hk
  split at hk
  ·rename_i V
   cases k with
   | zero=>rw[<-AR H];exact V
   | succ k=>exact q4j t (L:=L) (k:=k) Oo H
  ·exact absurd hk (BW _)
theorem q4h(t:α):∀{L:List α} {x:α},L[ledC c t L]?=some x->¬c x t<0
 | [],x,H=>by cases H
 | y::L,x,H=>by
  rw[ledC]at H
  split at H
  ·exact q4h t (L:=L) H
  ·rename_i V
   rw[<-AR H];exact V
theorem qpo(t:α):∀L:List α,insC c t L=match L[ledC c t L]? with
  | some x=>if c x t=0 then L else L.take (ledC c t L)++t::L.drop (ledC c t L)
  | none=>L++[t]
 | []=>rfl
 | x::L=>by
  rw[insC,ledC]
  by_cases h:c x t<0
  ·rw[Ab h,Ab h,qpo t L,B7]
   split
   ·split
    ·rfl
    ·rfl
   ·rfl
  ·rw[Aa h,Aa h];rfl
section
variable (O:OrdC c)
include O
theorem qr5{t:α}:∀{L:List α},RiseC c L->RiseC c (insC c t L)/\∀y,y∈insC c t L↔y=t\/y∈L
 | [],_=>⟨Cy _ _,λy=>by simp[insC]⟩
 | x::L,h=>by
  obtain⟨V,h2⟩:=Bf.1 h;obtain⟨r1,r2⟩:=qr5 (t:=t) (L:=L) h2;rw[insC]
  rcases O.tri x t with g|rfl|g
  ·rw[Ab g];refine⟨Bf.2 ⟨λy H=>?_,r1⟩,λy=>?_⟩
   ·rcases(r2 y).1 H with rfl|H
    ·exact g
    ·exact V y H
   ·rw[Ay,r2,Ay]
    constructor
    ·rintro(h|h|h)
     ·exact .inr (.inl h)
     ·exact .inl h
     ·exact .inr (.inr h)
    ·rintro(h|h|h)
     ·exact .inr (.inl h)
     ·exact .inl h
     ·exact .inr (.inr h)
  ·rw[Aa (O.irr x),Ab (O.eq.2 rfl)];refine⟨h,λy=>⟨.inr,λH=>?_⟩⟩
   rcases H with rfl|H
   ·exact AJ ..
   ·exact H
  ·have g1:0<c x t:=O.sym.1 g;rw[Aa Oo,Aa Oo];refine⟨Bf.2 ⟨λy H=>?_,h⟩,λy=>Ay⟩
   rcases Ay.1 H with rfl|H
   ·exact g
   ·exact O.trans g (V y H)
theorem qr3:∀(V H:List α),RiseC c H->RiseC c (V.foldl (λH t=>insC c t H) H)/\∀y,y∈V.foldl (λH t=>insC c t H) H↔y∈H\/y∈V
 | [],H,h=>(by grind)
 | t::V,H,h=>by
  obtain⟨h1,h2⟩:=qr5 O (t:=t) h;obtain⟨r1,r2⟩:=qr3 V (insC c t H) h1;refine⟨r1,λy=>?_⟩;rw[BV,r2,h2,Ay]
  constructor
  ·rintro((h|h)|h)
   ·exact .inr (.inl h)
   ·exact .inl h
   ·exact .inr (.inr h)
  ·rintro(h|h|h)
   ·exact .inl (.inr h)
   ·exact .inl (.inl h)
   ·exact .inr h
theorem qun(H:List α):RiseC c (qcm c H)/\∀y,y∈qcm c H↔y∈H:=by
 obtain⟨V,h2⟩:=qr3 O H [] List.Pairwise.nil
 grind [qcm]
theorem qvn{l:List α}(h:l.Pairwise λa b=>c a b<=0)(H:l.Nodup):RiseC c l:=by
 refine(List.pairwise_and_iff.2 ⟨h,H⟩).imp λ{a b} ⟨V,h2⟩=>?_
 rcases O.tri a b with g|e|g
 ·exact g
 ·simp_all
 ·have:=O.sym.1 g;omega
end
noncomputable def uniA[DecidableEq α](H:List α):List α->List α
 | []=>H
 | t::V=>if t∈H then uniA H V else uniA (H++[t]) V
theorem qmz[DecidableEq α]:∀(V H:List α),H.Nodup->(uniA H V).Nodup/\∀y,y∈uniA H V↔y∈H\/y∈V
 | [],H,h=>(by grind [uniA])
 | t::V,H,h=>by
  rw[uniA]
  split
  ·rename_i ht
   obtain⟨r1,r2⟩:=qmz V H h;refine⟨r1,λy=>?_⟩;rw[r2,Ay]
   constructor
   ·rintro(g|g)
    ·exact .inl g
    ·exact .inr (.inr g)
   ·rintro(g|rfl|g)
    ·exact .inl g
    ·exact .inl ht
    ·exact .inr g
  ·rename_i ht
   obtain⟨r1,r2⟩:=qmz V (H++[t]) (by
    refine CZ.2 ⟨h,Cy _ _,λa ha b hb e=>?_⟩;rw[Aq.1 hb]at e;exact ht (e ▸ ha))
   refine⟨r1,λy=>?_⟩;rw[r2,Ay,AU,Aq,or_assoc]
end
section
variable {α:Type} {c:α->α->Int} (O:OrdC c)
include O
theorem q1d[DecidableEq α]{H s:List α}(hp:s.Perm (uniA [] H))(hs:s.Pairwise λa b=>c a b<=0):s=qcm c H:=by
 obtain⟨u1,u2⟩:=qmz H [] List.Pairwise.nil;obtain⟨V,i2⟩:=qun O H;refine RiseC.same O (by grind [qvn]) V λy=>?_
 grind
theorem qum(H:List α)(t:α):qcm c (H++[t])=insC c t (qcm c H):=by
 have _:=O;grind [qcm]
theorem qadc{t:α}{L:List α}{x:α}(h:L[ledC c t L]?=some x)(e:x=t):insC c t L=L:=by
 rw[qpo,h];dsimp only;rw[Ab (O.eq.2 e)]
theorem qxw{t:α}{L:List α}(h:∀x,L[ledC c t L]?=some x->x≠t):insC c t L=L.take (ledC c t L)++t::L.drop (ledC c t L):=by
 rw[qpo];cases H:L[ledC c t L]? with
 | some x=>
  dsimp only;rw[Aa λe=>h x H (O.eq.1 e)]
 | none=>
  grind [List.take_of_length_le]
end
theorem ordT:OrdC cmpT where
 eq:=qar
 sym {a b}:=by
  constructor
  ·intro h;have H:=qay.1 h;have V:¬cmpT b a<0:=λg=>LtT.irrefl a (H.trans (qay.1 g))
   grind [qar]
  ·intro h
   rcases LtT.tri a b with g|g|g
   ·exact qay.2 g
   ·grind [qar]
   ·have:=qay.2 g;omega
 trans h g:=qay.2 ((qay.1 h).trans (qay.1 g))
theorem qif{α:Type}[DecidableEq α](t:α):∀(V H:List α),uniA H (V++[t])=if t∈uniA H V then uniA H V else uniA H V++[t]
 | [],H=>by
  rfl
 | x::V,H=>by
  rw[AG,uniA,uniA]
  split
  ·exact qif t V H
  ·exact qif t V (H++[x])
def hasP(s p:DB):Bool:=decide (p.size<=s.size)&&seq (s.extract 0 p.size) p
def plOk(pl:Int):Bool:=decide (0<=pl)&&decide (pl<=3)
def plT(pl:Int)(q:Q4):TM:=q.at pl.toNat
theorem qyg:plOk pl=true↔0<=pl/\pl<=3:=by grind [plOk]
theorem q5e:plOk pl=false↔pl<0\/3<pl:=by
 grind [qyg]
def begQ(pl:Int)(pre:DB)(q:Q4):Bool:=decide ((plT pl q).kind=1)&&hasP (plT pl q).text pre
def begL(pl:Int)(pre:DB)(p:Q4)(qs:List Q4):DL:=(qbe p qs).filter λi=>plOk pl&&begQ pl pre (qs.getD i zQ)
def tatL(pl:Int)(p:Q4)(qs:List Q4):List TM:=(qbe p qs).map λi=>plT pl (qs.getD i zQ)
def tasL(pl:Int)(p:Q4)(qs:List Q4):List TM:=if plOk pl=true then qcm cmpT (tatL pl p qs)else[]
theorem qx8{p:Q4}(h:i∈qbe p qs):i<qs.length:=by
 grind [qhs]
theorem qjs(p:Q4)(qs:List Q4):(qbe p qs).length<=qs.length:=by
 grind [q89]
theorem q1y(pl:Int)(pre:DB)(p:Q4)(qs:List Q4):(begL pl pre p qs).length<=qs.length:=AE (Dg ..) (qjs p qs)
theorem qacf(pre:DB)(p:Q4)(qs:List Q4)(h:plOk pl=false):begL pl pre p qs=[]:=by
 rw[begL,h];simp
def fltI(f:Nat->Bool)(l:DL)(k:Nat):DL:=(l.take k).filter f
theorem q8p(f:Nat->Bool)(l:DL):fltI f l l.length=l.filter f:=by grind [fltI]
theorem q8q{f:Nat->Bool}{l:DL}(hi:l[k]?=some i)(H:f i=true):fltI f l (k+1)=fltI f l k++[i]:=by
 grind [fltI,List.take_add_one]
theorem qpe{f:Nat->Bool}{l:DL}(hi:l[k]?=some i)(H:f i=false):fltI f l (k+1)=fltI f l k:=by
 grind [fltI,List.take_add_one]
theorem qac3(f:Nat->Bool)(l:DL)(k:Nat):(fltI f l k).length<=l.length:=
 AE (Dg ..) (by grind)
theorem q3t{α:Type}{c:α->α->Int}(t:α):∀L:List α,(insC c t L).length<=L.length+1
 | []=>Ai _
 | x::L=>by
  have:=q3t (c:=c) t L;rw[insC]
  split
  ·simpa using this
  ·split<;>simp
theorem qr4{α:Type}{c:α->α->Int}(_:OrdC c)(H:List α):(qcm c H).length<=H.length:=by
 suffices h:∀(n:Nat) (H:List α),H.length=n->(qcm c H).length<=n from h _ H rfl
 intro n
 induction n with
 | zero=>intro H h;obtain rfl:=Bo h;exact Ai _
 | succ n ih=>
  intro H h;obtain⟨V,u,rfl⟩:∃V u,H=V++[u]:=⟨H.dropLast,H.getLast (by grind),(List.dropLast_concat_getLast _).symm⟩
  grind [q3t,qcm]
def cntB(f:Nat->Bool)(l:DL)(k:Nat):Nat:=((l.take k).filter f).length
theorem q75(f:Nat->Bool)(l:DL):cntB f l l.length=(l.filter f).length:=by grind [cntB]
theorem q76{f:Nat->Bool}{l:DL}(hi:l[k]?=some i)(H:f i=true):cntB f l (k+1)=cntB f l k+1:=by
 grind [cntB,List.take_add_one]
theorem q2j{f:Nat->Bool}{l:DL}(hi:l[k]?=some i)(H:f i=false):cntB f l (k+1)=cntB f l k:=by
 grind [cntB,List.take_add_one]
theorem qw9{f:Nat->Bool}{l:DL}(hi:l[k]?=some i)(H:f i=true):(l.filter f)[cntB f l k]?=some i:=by
 grind [List.drop_eq_getElem_cons,List.take_append_drop,cntB]
theorem qacs{f:Nat->Bool}{l:DL}(hi:l[k]?=some i)(H:f i=true):cntB f l k<(l.filter f).length:=by
 grind [qw9]
theorem q8m:DM.underlying 47=some (.struct (DM.fieldsOf 47)):=by kernel_rfl
theorem qae1:DM.stoodInHeld 47=false:=by kernel_rfl
theorem qac8:DM.eqGuardType DM.depth 47=false:=by kernel_rfl
def qdv(a b:Q4):Bool:=qal a.s b.s&&(qal a.p b.p&&(qal a.o b.o&&qal a.g b.g))
theorem qmh{a b:Q4}:qdv a b=true↔a=b:=by
 obtain⟨H,V,a2,a3⟩:=a;obtain⟨b0,b1,b2,b3⟩:=b;simp[qdv,q7]
theorem qgp(d:Nat)(a b:Q4)(w:DA):(Op.equalIn (d+3) 47 (q4 a) (q4 b)).run DM w=.ok (qdv a b) w:=by
 have a3:=Tryz.isAgg45;have z3:=Tryz.sizeOf45;simp only[q4];rw[run_equalIn_agg w (d+2) _ _ _ q8m qae1];simp only[Program.fieldsOf,Tryz.underlying47];have e1:=qa0 d a.s b.s w;have e2:=qa0 d a.p b.p w;have e3:=qa0 d a.o b.o w;have e4:=qa0 d a.g b.g w;simp only[qy]at e1 e2 e3 e4;clear e1 e2 e3 e4
 go_simp
 have e:∀x y:DB,(x.toList=y.toList)=(seq x y=true):=λx y=>by rw[<-qnl,CI]
 simp only[e]
 by_cases H:a.s.kind=b.s.kind
 rotate_left
 ·simp[qdv,qal,H]
 by_cases h2:seq a.s.text b.s.text=true
 rotate_left
 ·simp[qdv,qal,H,h2]
 by_cases h3:seq a.s.type b.s.type=true
 rotate_left
 ·simp[qdv,qal,H,h2,h3]
 by_cases h4:seq a.s.lang b.s.lang=true
 rotate_left
 ·simp[qdv,qal,H,h2,h3,h4]
 by_cases h5:a.p.kind=b.p.kind
 rotate_left
 ·simp[qdv,qal,H,h2,h3,h4,h5]
 by_cases h6:seq a.p.text b.p.text=true
 rotate_left
 ·simp[qdv,qal,H,h2,h3,h4,h5,h6]
 by_cases h7:seq a.p.type b.p.type=true
 rotate_left
 ·simp[qdv,qal,H,h2,h3,h4,h5,h6,h7]
 by_cases h8:seq a.p.lang b.p.lang=true
 rotate_left
 ·simp[qdv,qal,H,h2,h3,h4,h5,h6,h7,h8]
 by_cases h9:a.o.kind=b.o.kind
 rotate_left
 ·simp[qdv,qal,H,h2,h3,h4,h5,h6,h7,h8,h9]
 by_cases V:seq a.o.text b.o.text=true
 rotate_left
 ·simp[qdv,qal,H,h2,h3,h4,h5,h6,h7,h8,h9,V]
 by_cases aa:seq a.o.type b.o.type=true
 rotate_left
 ·simp[qdv,qal,H,h2,h3,h4,h5,h6,h7,h8,h9,V,aa]
 by_cases ad:seq a.o.lang b.o.lang=true
 rotate_left
 ·simp[qdv,qal,H,h2,h3,h4,h5,h6,h7,h8,h9,V,aa,ad]
 by_cases ae:a.g.kind=b.g.kind
 rotate_left
 ·simp[qdv,qal,H,h2,h3,h4,h5,h6,h7,h8,h9,V,aa,ad,ae]
 by_cases af:seq a.g.text b.g.text=true
 rotate_left
 ·simp[qdv,qal,H,h2,h3,h4,h5,h6,h7,h8,h9,V,aa,ad,ae,af]
 by_cases ag:seq a.g.type b.g.type=true
 rotate_left
 ·simp[qdv,qal,H,h2,h3,h4,h5,h6,h7,h8,h9,V,aa,ad,ae,af,ag]
 by_cases ah:seq a.g.lang b.g.lang=true
 rotate_left
 ·simp[qdv,qal,H,h2,h3,h4,h5,h6,h7,h8,h9,V,aa,ad,ae,af,ag,ah]
 simp[qdv,qal,H,h2,h3,h4,h5,h6,h7,h8,h9,V,aa,ad,ae,af,ag,ah]
namespace V
end V
namespace V
theorem Fall.copy{c:Call}{a b:DF}(ho:o.op=.call c)(hc:c.callee=.builtin .copy)(hv:evs ρ c.args.toList=[a,b])(v:DF)(w':DA)(H:(Builtin.copy_ c.argTypes o.type #[a,b]).run P w=.ok v w')(hk:K v w'):Fall P (execOp (ev ρ) o) w K:=by
 have he:execOp (ev ρ) o=(do pure (.value (<-Builtin.copy_ c.argTypes o.type (c.args.map (ev ρ))))):=by
  simp only[execOp,ho,resolve,hc];rfl
 have V:c.args.map (ev ρ)=#[a,b]:=by
  rw[qea]at hv;rw[<-Bh];simpa using hv
 rw[he,V];exact⟨.inl ⟨v,w',by rw[Sem.run_bind,H];rfl,hk⟩⟩
end V
theorem q7x{x:Int}{n:Nat}(h:x=(n:Int)):bnd (some (ii x)) d n:=by
 subst h;rfl
open Go.RowKit Region
namespace V
structure ExtE(w w':DA):Prop where
 ext:Ext w w'
 dr:w.drawn<=w'.drawn
theorem ExtE.refl(w:DA):ExtE w w:=⟨Ext.refl w,Ai _⟩
theorem ExtE.trans{a b c:DA}(h:ExtE a b)(k:ExtE b c):ExtE a c:=⟨h.ext.trans k.ext,AE h.dr k.dr⟩
theorem ExtE.alloc{a:DA}(h:ExtE a w)(o:Obj):ExtE a (w.alloc o):=⟨h.ext.alloc o,h.dr⟩
theorem ExtE.drew(w:DA):ExtE w w.drew:=⟨(Ext.refl w).drew,Cq _⟩
end V
namespace V
theorem ExtE.grow(h:ExtE w w'):∃q H,w'=Sort.grow (w.drewN q) H:=by
 refine⟨w'.drawn-w.drawn,(w'.heap.toList.drop w.heap.size).toArray,?_⟩;have V:w'.heap=w.heap++(w'.heap.toList.drop w.heap.size).toArray:=by
  rw[<-Bh,Array.toList_append];conv=>lhs;rw[<-AM w.heap.size w'.heap.toList]
  congr 1
  apply Bj;intro k;rw[Bv]
  by_cases hk:k<w.heap.size
  ·rw[Ab hk];have:=h.ext.block k hk
   simp_all
  grind
 have hd:=h.dr;obtain⟨h1,h2,h3,h4,h5⟩:=w';obtain⟨e1,e2,e3,e4,e5⟩:=h.ext
 grind [Sort.grow,World.drewN]
section
variable {α:Type} [Inhabited α] {enc:α->DK} {k:Nat}
theorem qnu(H:∀x,(enc x).length=k)(hk:0<k)(Y:List α):(Sort.flatK enc k Y.toArray).toList=(Y.map enc).flatten:=by
 apply Bj;intro t
 by_cases V:t<Y.length*k
 ·have hj:t/k<Y.length:=Nat.div_lt_of_lt_mul (by grind);have hm:t%k<k:=Cs _ hk;have e:t/k*k+t%k=t:=Nat.div_add_mod' t k;have h1:=qeb enc k H Y (t/k) Y[t/k] (t%k) Js hm
  grind [Sort.flatK]
 ·rw[AY (by simpa using V),AY (by rw[qb7 enc k H];omega)]
theorem q5x(H:∀x,(enc x).length=k)(hk:0<k){e:DD}{Y:List α}(V:w.heap[g]?=some (.cells cur e))(ht:cur.toList.take (Y.length*k)=(Y.map enc).flatten):Sort.HoldsK enc k w g 0 Y.toArray:=by
 intro j hj;refine⟨?_,by simp[World.frozen?,V]⟩;rw[qa V,As,getElem!_pos _ j hj];have aa:j<Y.length*k:=by simpa using hj
 have h1:(cur.toList.take (Y.length*k))[j]?=(Sort.flatK enc k Y.toArray).toList[j]?:=by grind [qnu]
 grind
theorem qqp(w:DA)(g m:Nat)(d:Array α)(H:Array Obj)(_:g<w.heap.size):Chn [g] w (sortWorldK enc k w g 0 m d H):=by
 refine⟨rfl,rfl,rfl,?_,λb hb hn=>?_⟩
 all_goals grind [sortWorldK,Sort.grow,Sort.putRowK,Sort.putRow,Sort.mapBlock,Sort.ahead]
theorem qqq(V:∀x,(enc x).length=k)(hk:0<k){e:DD}{d:Array α}{os:Array Obj}(hg:w.heap[g]?=some (.cells cur e))(hc:d.size*k<=cur.size):
  ∃H,(sortWorldK enc k w g 0 m d os).heap[g]?=some (.cells H e)/\H.size=cur.size/\H.toList.take (d.size*k)=(d.toList.map enc).flatten:=by
 have aa:=quk hg;refine⟨Sort.putCells id 0 (Sort.flatK enc k d) cur,?_,by simp[Sort.putCells],?_⟩
 ·simp only[sortWorldK,Sort.grow,Sort.putRowK,Sort.putRow,Sort.mapBlock,Sort.ahead];rw[Array.getElem?_append_left (by simpa using aa),Dh,Ab rfl,hg];rfl
 ·have hf:=qnu V hk d.toList;have e1:d.toList.toArray=d:=by simp
  rw[e1]at hf;rw[<-hf];apply Bj;intro j;rw[Bv]
  grind [Sort.flatK,Sort.putCells]
end
end V
def or4(a b c d:Int):Int:=if a≠0 then a else if b≠0 then b else if c≠0 then c else d
def or4L(l:List Int):Int:=match l with
 | []=>0
 | a::l=>if a≠0 then a else or4L l
theorem qad5(a b c d:Int):or4L [a,b,c,d]=or4 a b c d:=by
 unfold or4;simp only[or4L]
 by_cases h:d≠0
 ·rw[Ab h]
 ·rw[Aa h,Dd.1 h]
theorem qad6(a b c d:Int)(nb:Nat)(w:DA)(hb:w.heap[nb]?=some (.cells #[ii a,ii b,ii c,ii d] 3)):
  Gv DM 58 [.slice (some ⟨nb,0,none⟩) 4 4] w λv w'=>v=ii (or4 a b c d)/\w'=w:=by
 have aa:∀i (x:Int),[a,b,c,d][i]?=some x->w.cell? ⟨nb,i,none⟩=some (ii x):=λi x H=>by
  rw[qa hb]
  match i,H with
  | 0,H=>cases H;rfl
  | 1,H=>cases H;rfl
  | 2,H=>cases H;rfl
  | 3,H=>cases H;rfl
  | _+4,H=>cases H
 refine ze Tryz.func58 Tryz.ntmps58 ?_;refine qq (λi:Nat=>[(3,ii 0),(6,.slice (some ⟨nb,0,none⟩) 4 4),(7,ii 4),(8,ii i)]) (λi w1=>i<=4/\or4 a b c d=or4L ([a,b,c,d].drop i)/\w1=w) (λi=>4-i) 0 fq ⟨by omega,(qad5 a b c d).symm,rfl⟩ ?_;rintro i w1 ad ⟨h1,V,rfl⟩;(conv=>whnf);refine zC (λ_=>zw ?_) (λ_=>zw ?_)
 ·have hi:i<[a,b,c,d].length:=by show i<4;omega
  have hd:[a,b,c,d].drop i=[a,b,c,d][i]::[a,b,c,d].drop (i+1):=Bc hi;have H:=aa i _ (zge hi);rw[hd,or4L]at V;obtain⟨x,ex⟩:∃x,x=[a,b,c,d][i]:=⟨_,rfl⟩
  rw[<-ex]at V H;refine ElemV.own1 i rfl Oo ?_;refine LoadV.of H (zw ?_);refine zC (λ_=>zu ?_) (λ_=>zu ?_)
  ·rw[Ab Oo]at V;exact⟨by rw[V],rfl⟩
  ·rw[Aa Oo]at V;exact⟨i+1,fq,⟨by omega,V,rfl⟩,by omega⟩
 ·obtain rfl:i=4:=by omega
  exact⟨by rw[V];rfl,rfl⟩
theorem qr6(x:Int)(w:DA):Gv DM 124 [ii x] w λv w'=>v=.bool false/\w'=w:=by
 refine ze Tryz.func124 Tryz.ntmps124 ?_;exact⟨Ad Value.bool (Ax (λh=>h rfl)),rfl⟩
def intC(x y:Int):Int:=if x<y then -1 else if y<x then 1 else 0
theorem qzk(x y:Int)(w:DA):Gv DM 59 [ii x,ii y] w λv w'=>v=ii (intC x y)/\w'=w:=by
 refine ze Tryz.func59 Tryz.ntmps59 ?_;refine zcv (qr6 x w) ?_;rintro r w1 ⟨rfl,rfl⟩;(conv=>whnf);refine zcv (qr6 y w1) ?_;rintro r w2 ⟨rfl,rfl⟩;conv=>whnf
 (repeat'(first|refine zp ?_|refine zC (λ_=>zw ?_) (λ_=>zw ?_)))
 ·exact⟨by rw[intC,Ab Oo],rfl⟩
 ·exact⟨by rw[intC,Aa Oo,Ab Oo],rfl⟩
 ·exact⟨by rw[intC,Aa Oo,Aa Oo],rfl⟩
theorem qaas:∀a b:LB,Lib.compareBytes a b=if a<b then -1 else if a=b then 0 else 1
 | [],[]=>rfl
 | [],_::_=>by rw[Lib.compareBytes,Ab (List.nil_lt_cons _ _)]
 | _::_,[]=>by rw[Lib.compareBytes,Aa (List.not_lt_nil _),Aa Js]
 | x::a,y::b=>by
  rw[Lib.compareBytes]
  by_cases H:x<y
  ·rw[Ab H,Ab (AZ.2 (.inl H))]
  ·rw[Aa H]
   by_cases V:y<x
   ·rw[Ab V,Aa (λg=>(AZ.1 g).elim H λe=>by rw[e.1]at V;exact UInt8.lt_irrefl _ V),Aa (λg=>by cases g;exact UInt8.lt_irrefl _ V)]
   ·have e:x=y:=by
     rw[UInt8.lt_iff_toNat_lt]at H V;exact BG.1 Oo
    subst e;rw[Aa V,qaas a b]
    by_cases h3:a<b
    ·rw[Ab h3,Ab (AZ.2 (.inr ⟨rfl,h3⟩))]
    ·rw[Aa h3,Aa (λg=>(AZ.1 g).elim H λe=>h3 e.2)]
     by_cases h4:a=b
     ·rw[Ab h4,Ab (by rw[h4])]
     ·rw[Aa h4,Aa (λg=>h4 (List.cons.inj g).2)]
theorem qqs(a b:DB)(w:DA):Gv DM 60 [.string a,.string b] w λv w'=>v=ii (txtC a b)/\w'=w:=by
 refine qe4 Jk ((Tryz.strings_Compare a b w).mono ?_);rintro e w' ⟨rfl,rfl⟩;refine⟨_,rfl,Ad (Value.int .i64) ?_,rfl⟩;rw[qaas,txtC]
 by_cases H:a.data.toList<b.data.toList
 ·rw[Ab H,Ab (qe0.2 H)]
 ·rw[Aa H,Aa (λg=>H (qe0.1 g))]
  by_cases V:a.data.toList=b.data.toList
  ·rw[Ab V,Ab (qab.2 (qd0 V))]
  ·rw[Aa V,Aa (λg=>V (by rw[qab.1 g]))]
theorem qacr(a b:TM):or4 (intC a.kind b.kind) (txtC a.text b.text) (txtC a.type b.type) (txtC a.lang b.lang)=cmpT a b:=by
 by_cases h:a.kind≠b.kind
 ·by_cases V:a.kind<b.kind
  ·have H:intC a.kind b.kind=-1:=by rw[intC,Ab V]
   rw[H,cmpT,Ab h,Ab V];rfl
  ·have H:intC a.kind b.kind=1:=by rw[intC,Aa V,Ab Oo]
   rw[H,cmpT,Ab h,Aa V];rfl
 ·have H:intC a.kind b.kind=0:=by rw[intC,Aa Oo,Aa Oo]
  rw[H,cmpT,Aa h];rfl
def tmA(X:List TM)(i:Nat):TM:=X.getD i zTM
def AscT(X:List TM):Prop:=∀i j,i<j->j<X.length->¬LtT (tmA X j) (tmA X i)
instance:Inhabited TM:=⟨zTM⟩
theorem qrh(a b:TM)(w:DA):Gv DM 20 [qy a,qy b] w λr w'=>r=ii (cmpT a b)/\ExtE w w':=by
 refine gv Jk Tryz.func20 rfl Tryz.ntmps20 rfl (zw ?_);refine⟨λb1 w1 ae aa=>?_⟩;have hm:=(Mem.nil w).new ae aa;have hx:ExtE w w1:=by rw[aa];exact(ExtE.refl w).alloc _
 clear ae aa;(conv=>whnf);refine⟨λb2 w2 af ad=>?_⟩;have hm:=hm.new af ad;have hx:ExtE w w2:=by rw[ad];exact hx.alloc _
 clear af ad;(conv=>whnf);refine DrawV.gen (λS H w'=>ExtE w w'/\Mem w w' [(b2,.cells (encT b).toArray 45),(b1,.cells (encT a).toArray 45)]/\(S 20=true->∃nb,H 20=.slice (some ⟨nb,0,none⟩) 4 4/\w'.heap[nb]?=some (.cells #[ii (intC a.kind b.kind),ii (txtC a.text b.text),ii (txtC a.type b.type),ii (txtC a.lang b.lang)] 3))) rfl Jk (λH=>⟨hx.trans (ExtE.drew _),hm.drew,λh=>by cases h⟩) (zw ?_);(apply StepG.of;(· intro S H wd hk hp V;(conv=>whnf);(first|exact⟨rfl,V⟩|((repeat'(first|(refine Obl.mk ⟨by omega,by omega⟩ ?_;conv=>whnf)|(refine Obl.mk ⟨by omega,by omega,⟨by omega,by omega⟩⟩ ?_;conv=>whnf)|((with_reducible refine Tst.tt ?_);conv=>whnf)|((with_reducible refine Tst.ff ?_);conv=>whnf)|((with_reducible refine Tst.dec (λ_=>?_) (λ_=>?_))<;>first|(exfalso;omega)|(conv=>whnf))|((with_reducible refine Tst.not ?_))|(refine Wit.conv ⟨by omega,by omega⟩ ?_;conv=>whnf)|((with_reducible refine IdxV.nat Oo ?_);conv=>whnf)|((with_reducible refine IdxV.at_ 0 ?_ Od ?_);rfl;(conv=>whnf))|((with_reducible refine IdxV.at_ 1 ?_ Od ?_);rfl;(conv=>whnf))|((with_reducible refine IdxV.at_ 2 ?_ Od ?_);rfl;(conv=>whnf))|((with_reducible refine IdxV.at_ 3 ?_ Od ?_);rfl;(conv=>whnf))|((with_reducible refine SameW.mk rfl ?_);conv=>whnf)|((with_reducible refine Tst.beqT ?_))|((with_reducible refine Tst.beqF ?_))|(refine Tst.yes rfl ?_;conv=>whnf)|(refine Tst.no rfl ?_;conv=>whnf)));exact⟨rfl,V⟩)));(conv=>whnf));apply StepG.of
 ·intro S H wd hk hp V;refine LoadV.mem V.2.1 (i:=1) rfl rfl (zw ?_);exact⟨rfl,V⟩
 (conv=>whnf);(apply StepG.of;(· intro S H wd hk hp V;(conv=>whnf);(first|exact⟨rfl,V⟩|((repeat'(first|(refine Obl.mk ⟨by omega,by omega⟩ ?_;conv=>whnf)|(refine Obl.mk ⟨by omega,by omega,⟨by omega,by omega⟩⟩ ?_;conv=>whnf)|((with_reducible refine Tst.tt ?_);conv=>whnf)|((with_reducible refine Tst.ff ?_);conv=>whnf)|((with_reducible refine Tst.dec (λ_=>?_) (λ_=>?_))<;>first|(exfalso;omega)|(conv=>whnf))|((with_reducible refine Tst.not ?_))|(refine Wit.conv ⟨by omega,by omega⟩ ?_;conv=>whnf)|((with_reducible refine IdxV.nat Oo ?_);conv=>whnf)|((with_reducible refine IdxV.at_ 0 ?_ Od ?_);rfl;(conv=>whnf))|((with_reducible refine IdxV.at_ 1 ?_ Od ?_);rfl;(conv=>whnf))|((with_reducible refine IdxV.at_ 2 ?_ Od ?_);rfl;(conv=>whnf))|((with_reducible refine IdxV.at_ 3 ?_ Od ?_);rfl;(conv=>whnf))|((with_reducible refine SameW.mk rfl ?_);conv=>whnf)|((with_reducible refine Tst.beqT ?_))|((with_reducible refine Tst.beqF ?_))|(refine Tst.yes rfl ?_;conv=>whnf)|(refine Tst.no rfl ?_;conv=>whnf)));exact⟨rfl,V⟩)));(conv=>whnf));apply StepG.of
 ·intro S H wd hk hp V;refine LoadV.mem V.2.1 (i:=0) rfl rfl (zw ?_);exact⟨rfl,V⟩
 apply StepG.of
 ·intro S H wd hk hp V;(conv=>whnf);refine zcv (qzk a.kind b.kind wd) ?_;rintro v w7 ⟨rfl,rfl⟩;exact⟨rfl,V⟩
 (conv=>whnf);(apply StepG.of;(· intro S H wd hk hp V;(conv=>whnf);(first|exact⟨rfl,V⟩|((repeat'(first|(refine Obl.mk ⟨by omega,by omega⟩ ?_;conv=>whnf)|(refine Obl.mk ⟨by omega,by omega,⟨by omega,by omega⟩⟩ ?_;conv=>whnf)|((with_reducible refine Tst.tt ?_);conv=>whnf)|((with_reducible refine Tst.ff ?_);conv=>whnf)|((with_reducible refine Tst.dec (λ_=>?_) (λ_=>?_))<;>first|(exfalso;omega)|(conv=>whnf))|((with_reducible refine Tst.not ?_))|(refine Wit.conv ⟨by omega,by omega⟩ ?_;conv=>whnf)|((with_reducible refine IdxV.nat Oo ?_);conv=>whnf)|((with_reducible refine IdxV.at_ 0 ?_ Od ?_);rfl;(conv=>whnf))|((with_reducible refine IdxV.at_ 1 ?_ Od ?_);rfl;(conv=>whnf))|((with_reducible refine IdxV.at_ 2 ?_ Od ?_);rfl;(conv=>whnf))|((with_reducible refine IdxV.at_ 3 ?_ Od ?_);rfl;(conv=>whnf))|((with_reducible refine SameW.mk rfl ?_);conv=>whnf)|((with_reducible refine Tst.beqT ?_))|((with_reducible refine Tst.beqF ?_))|(refine Tst.yes rfl ?_;conv=>whnf)|(refine Tst.no rfl ?_;conv=>whnf)));exact⟨rfl,V⟩)));(conv=>whnf));apply StepG.of
 ·intro S H wd hk hp V;refine LoadV.mem V.2.1 (i:=1) rfl rfl (zw ?_);exact⟨rfl,V⟩
 (conv=>whnf);(apply StepG.of;(· intro S H wd hk hp V;(conv=>whnf);(first|exact⟨rfl,V⟩|((repeat'(first|(refine Obl.mk ⟨by omega,by omega⟩ ?_;conv=>whnf)|(refine Obl.mk ⟨by omega,by omega,⟨by omega,by omega⟩⟩ ?_;conv=>whnf)|((with_reducible refine Tst.tt ?_);conv=>whnf)|((with_reducible refine Tst.ff ?_);conv=>whnf)|((with_reducible refine Tst.dec (λ_=>?_) (λ_=>?_))<;>first|(exfalso;omega)|(conv=>whnf))|((with_reducible refine Tst.not ?_))|(refine Wit.conv ⟨by omega,by omega⟩ ?_;conv=>whnf)|((with_reducible refine IdxV.nat Oo ?_);conv=>whnf)|((with_reducible refine IdxV.at_ 0 ?_ Od ?_);rfl;(conv=>whnf))|((with_reducible refine IdxV.at_ 1 ?_ Od ?_);rfl;(conv=>whnf))|((with_reducible refine IdxV.at_ 2 ?_ Od ?_);rfl;(conv=>whnf))|((with_reducible refine IdxV.at_ 3 ?_ Od ?_);rfl;(conv=>whnf))|((with_reducible refine SameW.mk rfl ?_);conv=>whnf)|((with_reducible refine Tst.beqT ?_))|((with_reducible refine Tst.beqF ?_))|(refine Tst.yes rfl ?_;conv=>whnf)|(refine Tst.no rfl ?_;conv=>whnf)));exact⟨rfl,V⟩)));(conv=>whnf));apply StepG.of
 ·intro S H wd hk hp V;refine LoadV.mem V.2.1 (i:=0) rfl rfl (zw ?_);exact⟨rfl,V⟩
 apply StepG.of
 ·intro S H wd hk hp V;(conv=>whnf);refine zcv (qqs a.text b.text wd) ?_;rintro v w7 ⟨rfl,rfl⟩;exact⟨rfl,V⟩
 (conv=>whnf);(apply StepG.of;(· intro S H wd hk hp V;(conv=>whnf);(first|exact⟨rfl,V⟩|((repeat'(first|(refine Obl.mk ⟨by omega,by omega⟩ ?_;conv=>whnf)|(refine Obl.mk ⟨by omega,by omega,⟨by omega,by omega⟩⟩ ?_;conv=>whnf)|((with_reducible refine Tst.tt ?_);conv=>whnf)|((with_reducible refine Tst.ff ?_);conv=>whnf)|((with_reducible refine Tst.dec (λ_=>?_) (λ_=>?_))<;>first|(exfalso;omega)|(conv=>whnf))|((with_reducible refine Tst.not ?_))|(refine Wit.conv ⟨by omega,by omega⟩ ?_;conv=>whnf)|((with_reducible refine IdxV.nat Oo ?_);conv=>whnf)|((with_reducible refine IdxV.at_ 0 ?_ Od ?_);rfl;(conv=>whnf))|((with_reducible refine IdxV.at_ 1 ?_ Od ?_);rfl;(conv=>whnf))|((with_reducible refine IdxV.at_ 2 ?_ Od ?_);rfl;(conv=>whnf))|((with_reducible refine IdxV.at_ 3 ?_ Od ?_);rfl;(conv=>whnf))|((with_reducible refine SameW.mk rfl ?_);conv=>whnf)|((with_reducible refine Tst.beqT ?_))|((with_reducible refine Tst.beqF ?_))|(refine Tst.yes rfl ?_;conv=>whnf)|(refine Tst.no rfl ?_;conv=>whnf)));exact⟨rfl,V⟩)));(conv=>whnf));apply StepG.of
 ·intro S H wd hk hp V;refine LoadV.mem V.2.1 (i:=1) rfl rfl (zw ?_);exact⟨rfl,V⟩
 (conv=>whnf);(apply StepG.of;(· intro S H wd hk hp V;(conv=>whnf);(first|exact⟨rfl,V⟩|((repeat'(first|(refine Obl.mk ⟨by omega,by omega⟩ ?_;conv=>whnf)|(refine Obl.mk ⟨by omega,by omega,⟨by omega,by omega⟩⟩ ?_;conv=>whnf)|((with_reducible refine Tst.tt ?_);conv=>whnf)|((with_reducible refine Tst.ff ?_);conv=>whnf)|((with_reducible refine Tst.dec (λ_=>?_) (λ_=>?_))<;>first|(exfalso;omega)|(conv=>whnf))|((with_reducible refine Tst.not ?_))|(refine Wit.conv ⟨by omega,by omega⟩ ?_;conv=>whnf)|((with_reducible refine IdxV.nat Oo ?_);conv=>whnf)|((with_reducible refine IdxV.at_ 0 ?_ Od ?_);rfl;(conv=>whnf))|((with_reducible refine IdxV.at_ 1 ?_ Od ?_);rfl;(conv=>whnf))|((with_reducible refine IdxV.at_ 2 ?_ Od ?_);rfl;(conv=>whnf))|((with_reducible refine IdxV.at_ 3 ?_ Od ?_);rfl;(conv=>whnf))|((with_reducible refine SameW.mk rfl ?_);conv=>whnf)|((with_reducible refine Tst.beqT ?_))|((with_reducible refine Tst.beqF ?_))|(refine Tst.yes rfl ?_;conv=>whnf)|(refine Tst.no rfl ?_;conv=>whnf)));exact⟨rfl,V⟩)));(conv=>whnf));apply StepG.of
 ·intro S H wd hk hp V;refine LoadV.mem V.2.1 (i:=0) rfl rfl (zw ?_);exact⟨rfl,V⟩
 apply StepG.of
 ·intro S H wd hk hp V;(conv=>whnf);refine zcv (qqs a.type b.type wd) ?_;rintro v w7 ⟨rfl,rfl⟩;exact⟨rfl,V⟩
 (conv=>whnf);(apply StepG.of;(· intro S H wd hk hp V;(conv=>whnf);(first|exact⟨rfl,V⟩|((repeat'(first|(refine Obl.mk ⟨by omega,by omega⟩ ?_;conv=>whnf)|(refine Obl.mk ⟨by omega,by omega,⟨by omega,by omega⟩⟩ ?_;conv=>whnf)|((with_reducible refine Tst.tt ?_);conv=>whnf)|((with_reducible refine Tst.ff ?_);conv=>whnf)|((with_reducible refine Tst.dec (λ_=>?_) (λ_=>?_))<;>first|(exfalso;omega)|(conv=>whnf))|((with_reducible refine Tst.not ?_))|(refine Wit.conv ⟨by omega,by omega⟩ ?_;conv=>whnf)|((with_reducible refine IdxV.nat Oo ?_);conv=>whnf)|((with_reducible refine IdxV.at_ 0 ?_ Od ?_);rfl;(conv=>whnf))|((with_reducible refine IdxV.at_ 1 ?_ Od ?_);rfl;(conv=>whnf))|((with_reducible refine IdxV.at_ 2 ?_ Od ?_);rfl;(conv=>whnf))|((with_reducible refine IdxV.at_ 3 ?_ Od ?_);rfl;(conv=>whnf))|((with_reducible refine SameW.mk rfl ?_);conv=>whnf)|((with_reducible refine Tst.beqT ?_))|((with_reducible refine Tst.beqF ?_))|(refine Tst.yes rfl ?_;conv=>whnf)|(refine Tst.no rfl ?_;conv=>whnf)));exact⟨rfl,V⟩)));(conv=>whnf));apply StepG.of
 ·intro S H wd hk hp V;refine LoadV.mem V.2.1 (i:=1) rfl rfl (zw ?_);exact⟨rfl,V⟩
 (conv=>whnf);(apply StepG.of;(· intro S H wd hk hp V;(conv=>whnf);(first|exact⟨rfl,V⟩|((repeat'(first|(refine Obl.mk ⟨by omega,by omega⟩ ?_;conv=>whnf)|(refine Obl.mk ⟨by omega,by omega,⟨by omega,by omega⟩⟩ ?_;conv=>whnf)|((with_reducible refine Tst.tt ?_);conv=>whnf)|((with_reducible refine Tst.ff ?_);conv=>whnf)|((with_reducible refine Tst.dec (λ_=>?_) (λ_=>?_))<;>first|(exfalso;omega)|(conv=>whnf))|((with_reducible refine Tst.not ?_))|(refine Wit.conv ⟨by omega,by omega⟩ ?_;conv=>whnf)|((with_reducible refine IdxV.nat Oo ?_);conv=>whnf)|((with_reducible refine IdxV.at_ 0 ?_ Od ?_);rfl;(conv=>whnf))|((with_reducible refine IdxV.at_ 1 ?_ Od ?_);rfl;(conv=>whnf))|((with_reducible refine IdxV.at_ 2 ?_ Od ?_);rfl;(conv=>whnf))|((with_reducible refine IdxV.at_ 3 ?_ Od ?_);rfl;(conv=>whnf))|((with_reducible refine SameW.mk rfl ?_);conv=>whnf)|((with_reducible refine Tst.beqT ?_))|((with_reducible refine Tst.beqF ?_))|(refine Tst.yes rfl ?_;conv=>whnf)|(refine Tst.no rfl ?_;conv=>whnf)));exact⟨rfl,V⟩)));(conv=>whnf));apply StepG.of
 ·intro S H wd hk hp V;refine LoadV.mem V.2.1 (i:=0) rfl rfl (zw ?_);exact⟨rfl,V⟩
 apply StepG.of
 ·intro S H wd hk hp V;(conv=>whnf);refine zcv (qqs a.lang b.lang wd) ?_;rintro v w7 ⟨rfl,rfl⟩;exact⟨rfl,V⟩
 refine StepG.any (λS H wd hk hp V=>zw ?_) ?_
 ·refine⟨λnb wx hb hw=>?_⟩;have hm:=V.2.1.new hb hw;subst hb hw;(conv=>whnf);exact⟨trivial,V.1.trans ((ExtE.refl wd).alloc _),hm.sub (Ak ..),λ_=>⟨_,rfl,heap_alloc_new wd _⟩⟩
 apply StepG.of
 ·intro S H wd hk hp V;obtain⟨nb,e,hn⟩:=V.2.2 (hp 20 Od);rw[ql e];(conv=>whnf);refine zcv (qad6 _ _ _ _ nb wd hn) ?_;rintro v w7 ⟨rfl,rfl⟩;rw[qacr];exact⟨rfl,V.1,V.2.1,λ_=>⟨nb,rfl,hn⟩⟩
 (conv=>whnf);(apply StepG.of;(· intro S H wd hk hp V;(conv=>whnf);(first|exact⟨rfl,V⟩|((repeat'(first|(refine Obl.mk ⟨by omega,by omega⟩ ?_;conv=>whnf)|(refine Obl.mk ⟨by omega,by omega,⟨by omega,by omega⟩⟩ ?_;conv=>whnf)|((with_reducible refine Tst.tt ?_);conv=>whnf)|((with_reducible refine Tst.ff ?_);conv=>whnf)|((with_reducible refine Tst.dec (λ_=>?_) (λ_=>?_))<;>first|(exfalso;omega)|(conv=>whnf))|((with_reducible refine Tst.not ?_))|(refine Wit.conv ⟨by omega,by omega⟩ ?_;conv=>whnf)|((with_reducible refine IdxV.nat Oo ?_);conv=>whnf)|((with_reducible refine IdxV.at_ 0 ?_ Od ?_);rfl;(conv=>whnf))|((with_reducible refine IdxV.at_ 1 ?_ Od ?_);rfl;(conv=>whnf))|((with_reducible refine IdxV.at_ 2 ?_ Od ?_);rfl;(conv=>whnf))|((with_reducible refine IdxV.at_ 3 ?_ Od ?_);rfl;(conv=>whnf))|((with_reducible refine SameW.mk rfl ?_);conv=>whnf)|((with_reducible refine Tst.beqT ?_))|((with_reducible refine Tst.beqF ?_))|(refine Tst.yes rfl ?_;conv=>whnf)|(refine Tst.no rfl ?_;conv=>whnf)));exact⟨rfl,V⟩)));(conv=>whnf));intro H wd V;(conv=>whnf);exact⟨rfl,V.1⟩
theorem q2h(a:TM):cmpT a a=0:=qar.2 rfl
theorem swoT:Sort.SWO (ltOf cmpT) where
 irrefl x:=by rw[ltOf,q2h];rfl
 trans x y z h1 V:=by
  rw[ltOf,decide_eq_true_iff,qay]at *;exact h1.trans V
 ntrans x y z h1 V:=by
  rw[ltOf,decide_eq_false_iff_not,qay]at *;intro h3
  rcases LtT.tri x y with h|h|h
  ·exact h1 h
  ·subst h;exact V h3
  ·exact V (h.trans h3)
theorem qaaa(g n:Nat)(w:DA):CmpLays DM 20 #[] encT 4 cmpT g 0 n w:=by
 intro m V dk _ x y;refine(qrh x y _).2.mono ?_;rintro e w' ⟨v,rfl,rfl,H⟩;exact⟨rfl,H.grow⟩
theorem qae9(args:DN)(w:DA):(callFunc 20 args).run DM w=.ok (.enter 20 args) w:=enters_of Tryz.func20 Jk rfl args w
theorem q3e(d:Array TM)(i:Nat):d[i]! = tmA d.toList i:=by
 rw[tmA,Ag,CC]
 by_cases h:i<d.size
 ·rw[getElem!_pos d i h,BX h];rfl
 ·rw[getElem!_neg d i h,Bz Oo];rfl
theorem q6t(Y:List TM)(A:oA)(c base:Nat)(w:DA)(h:w.ownsRow base 45 4 (.slice A Y.length c) Y.length (Y.map encT).flatten)(hl:Y.length<=1000000000000):
  Gv DM 123 [.slice A Y.length c,.func (.func 20) #[] #[]] w λr w'=>r=.tuple #[]/\∃Y',Y'.Perm Y/\AscT Y'/\w'.ownsRow base 45 4 (.slice A Y.length c) Y.length (Y'.map encT).flatten/\Chn (rowF (.slice A Y.length c)) w w':=by
 rcases h.2 with⟨e1,e2⟩|⟨g,ah,cur,e1,hb,hg,hn,ad,ae,af⟩
 ·have h0:Y=[]:=Bo e2;subst h0;cases e1;refine qe4 Jk ((AnyF.slices_SortFunc_none { Tryz.srt with } none 0 (.func (.func 20) #[] #[]) w).mono ?_);rintro e w' ⟨rfl,rfl⟩;exact⟨_,rfl,rfl,[],List.Perm.refl _,(λi j _ hj=>by simp at hj),h,Chn.refl _ _⟩
 ·cases e1;have V:=quk hg;refine qe4 Jk ((AnyQ.slices_SortFunc Tryz.srt 4 Tryz.isAgg45 Tryz.sizeOf45 encT qaf (λx v hv=>qaa x v hv) cmpT swoT 20 #[] g 0 c Y.toArray w qae9 (qaaa g _ w) (q5x qaf Od hg (by rw[af])) V Ys).mono ?_);rintro e w' ⟨rfl,H,n,os,⟨p1,_,p3⟩,hs,rfl⟩;have hz:H.size=Y.length:=by simpa using p1
  obtain⟨aa,r1,r2,r3⟩:=qqq (m:=n) (os:=os) (d:=H) qaf Od hg (by rw[hz];omega);have hp:H.toList.Perm Y:=by
   have e3:(H.extract 0 Y.toArray.size).toList=H.toList:=by
    rw[Dp];simp[List.extract];exact Aj (by simp[hz])
   have e4:(Y.toArray.extract 0 Y.toArray.size).toList=Y:=by simp
   rw[e3,e4]at p3;exact p3
  refine⟨_,rfl,rfl,H.toList,hp,λi j ag hj=>?_,⟨by rw[qb7 encT 4 qaf];simp[hz],.inr ⟨g,c,aa,rfl,hb,r1,hn,ad,by rw[r2,ae],by rw[<-hz];exact r3⟩⟩,?_⟩
  ·have h1:=hs i j (Af _) ag (by simpa[hz]using hj);rw[ltOf,decide_eq_false_iff_not,qay,q3e,q3e]at h1;exact h1
  ·exact qqp w g n H os V
theorem qm4(a b:Q4)(w:DA):Gv DM 147 [q4 a,q4 b] w λr w'=>r=ii (cmpQ a b)/\Ext w w':=by
 refine ze Tryz.func147 Tryz.ntmps147 ?_;refine znm (Mem.nil w) λb1 w1 H=>zw ?_;refine znm H ?_;intro b2 w2 H;have V:CellsAt w2 b1 0 (qm a):=CellsAt.mem H (zmc mh);have c2:CellsAt w2 b2 0 (qm b):=CellsAt.mem H mh;(conv=>whnf);refine LoadA.cells (qr V 3 Od) rfl (zw ?_);refine LoadA.cells (qr c2 3 Od) rfl (zw ?_);refine zcv (qbt a.g b.g w2) ?_;rintro r w3 ⟨rfl,aa⟩;have V:=V.ext aa;have c2:=c2.ext aa;have H:=H.call aa
 by_cases h0:cmpT a.g b.g=0
 ·refine zu ?_;refine LoadA.cells (qr V 0 Od) rfl (zw ?_);refine LoadA.cells (qr c2 0 Od) rfl (zw ?_);refine zcv (qbt a.s b.s w3) ?_;rintro r w4 ⟨rfl,ad⟩;have V:=V.ext ad;have c2:=c2.ext ad;have H:=H.call ad
  by_cases h1:cmpT a.s b.s=0
  ·refine zu ?_;refine LoadA.cells (qr V 1 Od) rfl (zw ?_);refine LoadA.cells (qr c2 1 Od) rfl (zw ?_);refine zcv (qbt a.p b.p w4) ?_;rintro r w5 ⟨rfl,ae⟩;have V:=V.ext ae;have c2:=c2.ext ae;have H:=H.call ae
   by_cases h2:cmpT a.p b.p=0
   ·refine zu ?_;refine LoadA.cells (qr V 2 Od) rfl (zw ?_);refine LoadA.cells (qr c2 2 Od) rfl (zw ?_);refine zcv (qbt a.o b.o w5) ?_;rintro r w6 ⟨rfl,af⟩;(conv=>whnf);exact⟨by rw[cmpQ,Aa (λg=>g h0),Aa (λg=>g h1),Aa (λg=>g h2)],(H.call af).ext⟩
   ·refine zu ?_;exact⟨by rw[cmpQ,Aa (λg=>g h0),Aa (λg=>g h1),Ab h2],H.ext⟩
  ·refine zu ?_;exact⟨by rw[cmpQ,Aa (λg=>g h0),Ab h1],H.ext⟩
 ·refine zu ?_;exact⟨by rw[cmpQ,Ab h0],H.ext⟩
section
variable (qs:List Q4) (A:oA) (n c:Nat) (w:DA)
end
namespace V
end V
def eT(m:Nat):DD:=if m%2=0 then 164 else 5
section
variable {w w1 w2:DA} {Z:DL} {rb:Nat} {U G:DH} {L:Nat->DK}
end
namespace V
theorem RunV.eqQd{a b:Q4}(h:K (.bool (qdv a b)) w):
  RunV DM (do eqGuard .eql 47 xo yo (q4 a) (q4 b);binOp .eql 47 (q4 a) (q4 b)) w K:=by
 refine⟨_,w,?_,h⟩;rw[Sem.run_bind,q4,q4,run_eqGuard_agg w .eql _ xo yo _ _ qac8,Result.andThen_ok];have e:=qgp 9997 a b w;simp only[q4]at e;rw[run_eql_struct,e];rfl
end V
end Go.Proofs.YtccmcfpmknpccaaGreatDoor
