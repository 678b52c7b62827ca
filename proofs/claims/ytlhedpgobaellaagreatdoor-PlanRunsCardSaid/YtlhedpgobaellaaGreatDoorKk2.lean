/-
Texts of this proof,one behind the other. No conditions.
-/
import Derived.Test.YtlhedpgobaellaaGreatDoorKk
open Go.Proofs.YtlhedpgobaellaaGreatDoor.Hp renaming set→Ka,aAM→Kb,le_refl→Kc,same→Kf,le_trans→Kg
open List renaming getD_eq_getElem?_getD→Kd,getElem?_eq_getElem→Ke,map_append→Kh,take_succ_eq_append_getElem→Ki,getElem_mem→Kj,map_nil→Kk,range→Km,map_cons→Ko,take_of_length_le→Kp,length_take→Kq,append_nil→Ks,length_append→Kv,length_eraseIdx_of_lt→Kw,mem_of_mem_eraseIdx→Ky,mem_append→KC,length_map→KD,mem_map→KE,length_range→KF,getElem?_map→KG,all_eq_true→KI,mem_filter→KJ,filter_nil→KK,take_zero→KL,length→KN
open Nat renaming le_refl→Kt,zero_le→Kx,lt_or_ge→KA,lt_succ_self→KH,zero_add→KM,le_succ→KO,add_mul→KP
open Bool renaming and_eq_true→Ku,not_eq_true→Kz
open Prod renaming fst→KB
open Nat renaming reduceAdd→jA,reduceSub→jB,reduceLT→jC,reduceLeDiff→jD,reduceEqDiff→jE
open Int renaming reduceToNat→jF,toNat_natCast→jG,natCast_add→jH,natCast_one→jI,natCast_zero→jJ
open List renaming length_map→jK,length_cons→jL,length_nil→jM,cons_append→jP,nil_append→jQ
set_option linter.all false
set_option maxHeartbeats 8000000
namespace Go.Proofs.YtlhedpgobaellaaGreatDoor
open Go.RowKit Go.Sort
attribute [local irreducible] IntKind.wrap
theorem g9{α:Type}(p:α→Bool)(l:List α):bN p l=-1∨∃i:Nat,bN p l=i∧i<l.length:=by
 unfold bN;cases h:l.findIdx? p with
 |none=>exact .inl rfl
 |some i=>
  rw[List.findIdx?_eq_some_iff_getElem] at h;exact .inr ⟨i,rfl,h.1⟩
theorem ei(r:Ru)(s:List ByteArray)(left:List Nat):nA r s left=-1∨∃i:Nat,nA r s left=i∧i<left.length:=by
 unfold nA;split
 ·rename_i h;rcases g9 (fun k=>eR s (r.b.getD k default)) left with e|e
  ·omega
  exact .inr e
 exact g9 _ _
def iZ(r:Ru):Nat→List ByteArray→List Nat→List (Nat×List ByteArray)
 |0,_,_=>[]
 |n+1,s,left=>if nA r s left<0 then [] else
  (left.getD (nA r s left).toNat 0,eF r (s++(r.b.getD (left.getD (nA r s left).toNat 0) default).vars) true)::iZ r n (s++(r.b.getD (left.getD (nA r s left).toNat 0) default).vars) (left.eraseIdx (nA r s left).toNat)
def pP(r:Ru):List (Nat×List ByteArray):=iZ r r.b.length [] (Km r.b.length)
def bA(r:Ru):List Nat:=(pP r).map KB
theorem s9{r:Ru}{s:List ByteArray}{left:List Nat}(h:nA r s left<0):iZ r left.length s left=[]:=by
 cases e:left.length with
 |zero=>rfl
 |succ n=>unfold iZ;rw[if_pos h]
theorem s8{r:Ru}{s:List ByteArray}{left:List Nat}{i:Nat}(h:nA r s left=i)(hi:i<left.length):iZ r left.length s left=(left.getD i 0,eF r (s++(r.b.getD (left.getD i 0) default).vars) true)::iZ r (left.eraseIdx i).length (s++(r.b.getD (left.getD i 0) default).vars) (left.eraseIdx i):=by
 obtain⟨n,hn⟩:∃n,left.length=n+1:=⟨left.length-1,or⟩;have e:(left.eraseIdx i).length=n:=by rw[Kw hi];omega
 rw[hn,e];conv=>lhs;unfold iZ
 rw[h,if_neg or,jG]
def D7(r:Ru)(p:Nat×List ByteArray):List V:=[.int .i64 p.1, .sl .leaf (frO r.vars) (p.2.map V.str)]
theorem yu(r:Ru)(hr:dF r=true):G6 Tryz.prog 187 [.ept (.agg 6) [r.v] 0 0] Hp.none (D7 r) (fun i x=>∃l,pP r=i++x::l) (fun i=>i=pP r):=by
 intro yn n0 J D hJF hJn hJa hJu hDn hy F0 h0 hj0 _ aEh;refine aB L.aXS fun hd=>?_;obtain⟨b1,b2,b3⟩:=dE hr;refine ZK ?_;refine aue (e3 Ru.v.eq_1 trs.eq_1 (@jK Li V)) ?_;refine pF ?_;refine Zn ?_;refine aue (e3 Ru.v.eq_1 trs.eq_1 (@jK Li V)) ?_
 --the places
 have hj1:=hJa F0 [] h0 n0 (.mp [] 0) hj0 aEh (Kt _);have hlr:(Km r.b.length).length=r.b.length:=KF
 refine aP (fun q:Nat×V=>aD 50 0 [(0, .yld yn),(1, .ept (.agg 6) [r.v] 0 0),(3, .map n0),(4,q.2),(10, .sl (.agg 17) r.o (r.b.map Li.v)),(11, .int .i64 r.b.length),(12, .int .i64 q.1)])
  (fun q hp nx1=>q.1≤r.b.length∧n0+1≤nx1∧aS hp nx1∧Kf (n0+1) (h0.set n0 (.mp [] 0)) hp∧OwL hp (n0+1) .leaf ((Km q.1).map kV) q.2)
  (fun q=>r.b.length-q.1) (0, .sl .leaf .nil []) ⟨Kx _,Zw,dmo aEh,by exact kep Hp.same.aAr, .inl ⟨rfl,rfl⟩⟩ (by simp only[WkL,aD,jH,jI,jJ,jK,Ru.v.eq_1,go_sem,reduceIte,jA,jB,jC,jD,reduceCtorEq,jE,jF]) ?_
 rintro⟨i,v⟩ hp nx1 ⟨hi,hnx,hdm,hsm,aA2⟩;generalize hQ:aZ _ _ _ _ _=Q0;dsimp only at hi aA2;refine Zk ?_;rcases KA i r.b.length with hlt|hge
 ·have hc:decide ((i:Int)<(r.b.length:Int))=true:=dct;have hw:IntKind.i64.wrap ((i:Int)+1)=((i+1:Nat):Int):=wrp;have hrs:(Km (i+1)).map kV=(Km i).map kV++[.int .i64 i]:=by rw[List.range_succ,Kh];rfl
  rcases aA2 with⟨q1,rfl⟩|⟨q1,id,q2,rfl,q3⟩
  ·have hi0:i=0:=by
    have:=congrArg KN q1;simpa using this
   subst hi0;refine aun (e2 hc hw) ?_;refine fO rfl rfl Zm (by simp only[jL,jM];omega) ?_;refine Zn ?_;refine aue hw ?_;rw[←hQ];refine aF (0+1, .rs (nx1+1) .leaf 0 1) Zw ⟨hlt,or,dmo hdm,kep hsm, .inr ⟨Zm,nx1+1,or,Zm,by rw[hrs];simp only[go_sem,reduceIte,jA,jB,jC,jD,reduceCtorEq,jE,jF];rfl⟩⟩ (by simp only[WkL,aD,jH,jI,jJ,go_sem,reduceIte,jA,jB,jC,jD,reduceCtorEq,jE,jF])
  have hid:id<nx1:=hdm _ _ q3;have hlm:(Km i).length=i:=KF;have htk:((Km i).map kV).take i=(Km i).map kV:=Kp Zm;simp only[jK,hlm];refine aue (e7 hc hw q3 hid hlm htk b2) ?_;rw[←hQ];refine aF (i+1, .rs (nx1+1) .leaf 0 (i+1)) Zw ⟨hlt,or,dmo hdm,kep hsm, .inr ⟨Zm,nx1+1,or,Zm,by rw[hrs];simp only[go_sem,reduceIte,jA,jB,jC,jD,reduceCtorEq,jE,jF]⟩⟩ (by simp only[WkL,aD,jH,jI,jJ,go_sem,reduceIte,jA,jB,jC,jD,reduceCtorEq,jE,jF])
 have hc:decide ((i:Int)<(r.b.length:Int))=false:=dcf;have hib:i=r.b.length:=or;subst hib;refine aue hc ?_;rw[←hQ];refine au ?_;have hle1:∀{m b},(h0.set n0 (.mp [] 0)) m=some b→hp m=some b:=fun{m b} e=>by
  have:m<n0+1:=(aS.aPD (aEh.up (KO _)) (KH _) _) m b e;rw[hsm m this];exact e
 have hpl:∃F hj,F0.le F∧J F [] hj nx1∧hj.le hp∧F n0=some (.mp [] 0)∧PlL F (n0+1) (Km r.b.length) v:=by
  have hF1:F0.le (F0.set n0 (.mp [] 0)):=eH (Kc _) (aS.none (aEh.le (hJF _ _ _ _ hj0)) (Kt _)) _;rcases aA2 with⟨q1,rfl⟩|⟨q1,id,q2,rfl,q3⟩
  ·exact⟨_,_,hF1,hJn _ _ _ _ _ hj1 hnx,fun m b e=>hle1 e,by simp[Ka], .inl ⟨by simpa using q1,rfl⟩⟩
  have hid:id<nx1:=hdm _ _ q3;have hd1:aS (h0.set n0 (.mp [] 0)) (n0+1):=aS.aPD (aEh.up (KO _)) (KH _) _;have hj2:=hJa _ _ _ _ (.arr .leaf ((Km r.b.length).map kV)) (hJn _ _ _ _ _ hj1 q2) (hd1.up q2) or;have hFd:aS (F0.set n0 (.mp [] 0)) (n0+1):=hd1.le (hJF _ _ _ _ hj1);refine⟨_,_,Kg hF1 (eH (Kc _) (aS.none hFd q2) _),hJn _ _ _ _ _ hj2 or,fun m b e=>?_,?_, .inr ⟨id,[],q2,Zm,by simp[Ka]⟩⟩
  ·simp only[Ka] at e;split at e
   ·rename_i hm;rw[hm,q3];exact e
   exact hle1 e
  simp only[Ka];rw[if_neg or];simp
 obtain⟨F,hj,p1,p2,p3,p4,p5⟩:=hpl
 refine aP (fun q:List (Nat×List ByteArray)×List ByteArray×List Nat×V=>aD 50 0 [(0, .yld yn),(1, .ept (.agg 6) [.agg [.str r.h.r, .sl (.agg 4) r.h.o (r.h.l.map Tr.v), .int .i64 r.g, .int .i64 r.c, .sl (.agg 17) r.o (r.b.map Li.v), .int .i64 r.at_]] 0 0),(3, .map n0),(4,q.2.2.2)])
  (fun q hp nx1=>aS hp nx1∧n0+1≤nx1∧(∃F hj es c,F0.le F∧J F q.1 hj nx1∧hj.le hp∧F n0=some (.mp es c)∧hZ es q.2.1∧PlL F (n0+1) q.2.2.1 q.2.2.2)∧pP r=q.1++iZ r q.2.2.1.length q.2.1 q.2.2.1∧(∀k∈q.2.2.1,k<r.b.length)∧q.2.1.length+q.2.2.1.length*2097158≤8*2097158)
  (fun q=>q.2.2.1.length) ([],[],Km r.b.length,v) ⟨hdm,hnx,⟨F,hj,[],0,p1,p2,p3,p4,lf,p5⟩,by simp[pP],fun k hk=>by simpa using hk,by dsimp only;rw[hlr];simp only[jM];omega⟩ (by simp only[WkL,aD,jH,jI,jJ,Ru.v.eq_1,go_sem,reduceIte,jA,jB,jC,jD,reduceCtorEq,jE,jF]) ?_
 rintro⟨done,s,left,v⟩ hp nx1 ⟨hdm,hnx,⟨F,hj,es,c,p1,p2,p3,p4,p5,p6⟩,hst,hlt,hsl⟩;generalize hQ:aZ _ _ _ _ _=Q0;dsimp only at p2 p5 p6 hst hlt hsl;refine Zk ?_;have hFp:F.le hp:=Kg (hJF _ _ _ _ p2) p3;have hm1:hp n0=some (.mp es c):=hFp _ _ p4;have hll:left.length≤8:=or;have C:=y4 r hr s or n0 es c hp hm1 p5 left hlt or (n0+1) v (p6.le hFp);simp only[Ru.v] at C;refine aue trs.eq_1 ?_;refine aH C rfl (aI _) ?_;refine Zn ?_;rcases ei r s left with hi|⟨i,hi,hil⟩
 ·rw[hi];have g1:decide ((-1:Int)<0)=true:=rfl;refine aue g1 ?_;rw[←hQ];refine au ?_;refine⟨hj,p3, .inl ⟨F,done,p1,?_,p2⟩⟩;rw[hst,s9 or,Ks]
 rw[hi];have g1:decide ((i:Int)<0)=false:=dcf;rcases p6 with⟨rfl,_⟩|⟨id,zs,k1,rfl,k3⟩
 ·cases hil
 have aPm:=hFp _ _ k3;have bCW:id<nx1:=hdm _ _ aPm;have aFO:left.getD i 0=left[i]:=by rw[Kd,Ke hil];rfl
 have hkb:=hlt left[i] (Kj _);have hg:(left.map kV++zs).getD i (.tup [])= .int .i64 left[i]:=by rw[Kd,List.getElem?_append_left (by simpa using hil),←Kd];exact aL kV left i hil
 have hap:(left.map kV++zs).length=left.length+zs.length:=Zm;have hlz:i<left.length+zs.length:=or;have hw:IntKind.i64.wrap ((i:Int)+1)=((i+1:Nat):Int):=wrp;refine aue (e8 g1 aPm hg hap hlz hil hw (KM i)) ?_;rw[show left.length=(left.map kV).length by simp];refine aV ((jx id (left.map kV) zs i hp nx1 aPm (by simpa using hil)).dom.mono ?_);rintro v2 h2 nx2 aAS ⟨⟨rfl,rfl⟩,hd2,_⟩;unfold bW;refine Zn ?_;have hg2:=aL Li.v r.b left[i] hkb;have hD2:r.b.getD left[i] default=r.b[left[i]]:=by rw[Kd,Ke hkb];rfl
 have hrl:=b3 r.b[left[i]] (Kj _);have hs2:=s8 hi hil;rw[aFO,hD2] at hs2;generalize r.b[left[i]]=l at hg2 hrl hs2;have hvl:=sK hrl;have hf:=Li.aAC l;obtain⟨o1,ho1⟩:=bX .leaf (l.vars.map V.str);have C1:∀h:Hp,aM Tryz.prog 75 [l.v] h (.sl .leaf o1 (l.vars.map V.str)):=fun h=>ho1▸xP l hrl h;obtain⟨X,hX⟩:∃X,l.v=X:=⟨_,rfl⟩;rw[hX] at hg2 hf C1;generalize hH:Ka hp id _=H;have aZZ:H id=some (.arr .leaf ((left.map kV).take i++(left.map kV).drop (i+1)++(zin::zs))):=by rw[←hH];simp[Ka]
 have hHo:∀m,m≠id→H m=hp m:=fun m hm=>by rw[←hH];simp only[Ka];rw[if_neg hm]
 rw[hH] at hd2;have hHn:H n0=some (.mp es c):=by rw[hHo n0 or];exact hm1
 refine aue (e5 hg2 hf hkb (@jK Li V) jG) ?_;refine aV ((tY o1 l.vars s or n0 es c H nx2 hHn p5).dom.mono ?_);rintro v3 h3 nx3 aCu ⟨⟨es3,c3,w1,w2,w3⟩,hd3,_⟩;unfold bW;refine Zn ?_;have S:=di r hr (s++l.vars) n0 es3 c3 h3 w1 w2 true;simp only[Ru.v] at S;refine aue trs.eq_1 ?_;refine aH S rfl (aI _) ?_;refine Zn ?_;have er:(left.map kV).take i++(left.map kV).drop (i+1)=(left.eraseIdx i).map kV:=by rw[List.eraseIdx_eq_take_drop_succ,Kh,List.map_take,List.map_drop]
 have el:(left.eraseIdx i).length=left.length-1:=Kw hil;have hjF:=hJu _ _ _ _ id _ (.arr .leaf ((left.eraseIdx i).map kV++(zin::zs))) p2 or k3;have aZI:=hJu _ _ _ _ n0 (.mp es c) (.mp es3 c3) hjF (Kt _) (by simp only[Ka];rw[if_neg or];exact p4);have aZH:=hJn _ _ _ _ nx3 aZI or;have hj3:((hj.set id (.arr .leaf ((left.eraseIdx i).map kV++(zin::zs)))).set n0 (.mp es3 c3)).le h3:=fun m b e=>by
  simp only[Ka] at e;split at e
  ·rename_i hm;rw[hm,w1];exact e
  rename_i hm;split at e
  ·rename_i hm2;rw[hm2,w3 id or or,aZZ,er];exact e
  rename_i hm2;have:=p3 m b e;rw[w3 m (Nat.lt_of_lt_of_le (hdm _ _ this) aAS) hm,hHo m hm2];exact this
 have aZa:F0.le ((F.set id (.arr .leaf ((left.eraseIdx i).map kV++(zin::zs)))).set n0 (.mp es3 c3)):=fun m b e=>by
  have hm:m<n0:=aEh m b (hJF _ _ _ _ hj0 m b e);simp only[Ka];rw[if_neg or,if_neg or];exact p1 m b e
 have Y:=hy _ _ (left[i],eF r (s++l.vars) true) ⟨_,by rw[hst,hs2]⟩ _ nx3 aZH (hd3.le hj3) or;unfold D7 at Y;refine au ?_;refine nF rfl ((Y.weaken hj3).dom.mono ?_);rintro v4 h4 nx4 aDv ⟨hv,hd4,_⟩;rcases hv with⟨rfl,hv⟩|⟨rfl,hv⟩
 ·unfold bW;refine Zn ?_;refine au ?_;rw[←hQ];refine aF (done++[(left[i],eF r (s++l.vars) true)],s++l.vars,left.eraseIdx i, .rs id .leaf 0 ((left.map kV).length-1)) Zw ⟨hd4,or,⟨_,h4,es3,c3,aZa,hv,Kc _,by simp[Ka],w2, .inr ⟨id,zin::zs,k1,by rw[el,jK],by simp only[Ka];rw[if_neg or];simp⟩⟩,?_,fun k hk=>hlt k (Ky hk),?_⟩ (by simp only[WkL,aD,jH,jI,jJ,jK,go_sem,reduceIte,jA,jB,jC,jD,reduceCtorEq,jE,jF])
  ·dsimp only;rw[hst,hs2];simp
  dsimp only;rw[el,Kv];have:left.length=(left.length-1)+1:=or;rw[this,KP] at hsl;omega
 unfold bW;refine Zn ?_;refine au ?_;rw[←hQ];refine au ?_;exact⟨h4,Kc _, .inr hv⟩
theorem yr(r:Ru)(h:Hp):aM Tryz.prog 122 [r.v] h (.fn (.func 187) [] [.ept (.agg 6) [r.v] 0 0]):=by
 have hf:r.v.fits (.agg 6)=true:=rfl;refine oY (fun L hL=>by simpa [V.names,bM] using hL) fun h' nx hh=>aB L.bAN fun hd=>?_;obtain⟨ev,hev⟩:∃ev,r.v=ev:=⟨_,rfl⟩;rw[hev] at hf⊢;refine ZK ?_;refine bS ?_;generalize hR:mD _ _=R;refine aue hf ?_;rw[←hR];refine dA (mO (t:=1) (n:=nx) (k:= .agg 6) (i:=0) (o:=0) (es:=[ev]) rfl (by simp only[go_sem,reduceIte,jA,jB,jC,jD,reduceCtorEq,jE,jF])) ?_;refine Zn ?_;refine au ?_;refine aC h' (fun m b e=>?_) ⟨rfl,rfl⟩;have:=hd _ _ e;simp only[Hp.del,Ka];rw[if_neg or,if_neg or];exact e
theorem mP(r:Ru):∀(n:Nat) (s:List ByteArray) (left:List Nat),(iZ r n s left).length≤n
 |0,_,_=>Kt _
 |n+1,s,left=>by
  unfold iZ;split
  ·exact Kx _
  have:=mP r n (s++(r.b.getD (left.getD (nA r s left).toNat 0) default).vars) (left.eraseIdx (nA r s left).toNat);simp only[jL];omega
theorem ed(r:Ru)(hr:dF r=true)(h:Hp):aM Tryz.prog 72 [r.v] h (lst .leaf ((bA r).map kV)):=by
 refine ud (fun L=>bF (f:=kV) (fun _=>trivial) _) fun h' nx hh=>aB L.bA5 fun hd=>?_;have hd:aS h' nx:=hd;have hit:=yu r hr;have C1:=fun h=>yr r h;have hb8:=(dE hr).2.1;have hsl:=mP r r.b.length [] (Km r.b.length);obtain⟨X,hX⟩:∃X,r.v=X:=⟨_,rfl⟩;have hf:X.fits (.agg 6)=true:=by rw[←hX];rfl
 rw[hX] at hit C1⊢;refine ZK ?_;refine aue hf ?_;have aAf:∀n,nx≤n→h' n=none:=fun n hn=>aS.none hd hn;obtain⟨I,hI⟩:∃I:Hp→List (Nat×List ByteArray)→Hp→Nat→Prop,∀F i h nx1,I F i h nx1↔(h'.le F∧F.le h∧F (nx+1)=none∧(∃acc,h (nx+1)=some (.arr .leaf [acc])∧((i=[]∧acc= .sl .leaf .nil [])∨(i≠ []∧∃id,nx≤id∧id≠nx+1∧id≠nx+2∧F id=none∧acc= .rs id .leaf 0 i.length∧h id=some (.arr .leaf ((i.map KB).map kV)))))):=⟨_,fun _ _ _ _=>Iff.rfl⟩;have hsub:∀{F h:Hp} (n:Nat) (b:Blk),F.le h→(F.set n b).le (h.set n b):=fun n b hF m c hm=>by
  unfold Ka at hm⊢;split
  ·rename_i e1;rw[if_pos e1] at hm;exact hm
  rename_i e1;rw[if_neg e1] at hm;exact hF m c hm
 refine ap hit rfl (fun x=>rfl) (by exact dmo hd) I (fun _ _ _=>False) ?_ ?_ ?_ ?_ ?_ (fun _ _ _ _ h=>h.elim) (fun _ _ _ _ h=>h.elim) h' ?_ (bH _) (aAf _ Zm) ?_ ?_ (fun _ _ _ h=>h.elim)
 ·exact fun F i h nx1 hi=>((hI _ _ _ _).1 hi).2.1
 ·exact fun F i h nx1 nx2 hi _=>(hI _ _ _ _).2 ((hI _ _ _ _).1 hi)
 ·intro F i h nx1 b hi hFn;obtain⟨hle,hFh,hF0,acc,h1,h2⟩:=(hI _ _ _ _).1 hi;refine(hI _ _ _ _).2 ⟨hle,eH hFh hFn b,hF0,acc,?_,?_⟩
  ·simp only[Kb];rw[if_neg or];exact h1
  rcases h2 with h2|⟨hi,id,h3,h4,h5,hFi,h6,h7⟩
  ·exact .inl h2
  refine .inr ⟨hi,id,h3,h4,h5,hFi,h6,?_⟩;simp only[Kb];rw[if_neg h5];exact h7
 ·intro F i h nx1 b hi hdm hlt;obtain⟨hle,hFh,hF0,acc,h1,h2⟩:=(hI _ _ _ _).1 hi;simp only at hlt;have hFd:=hdm.le hFh;refine(hI _ _ _ _).2 ⟨Kg hle (eH (Kc _) (aS.none hFd (Kt _)) b),hsub _ _ hFh,?_,acc,?_,?_⟩
  ·simp only[Kb];rw[if_neg or];exact hF0
  ·simp only[Kb];rw[if_neg or];exact h1
  rcases h2 with h2|⟨hi,id,h3,h4,h5,hFi,h6,h7⟩
  ·exact .inl h2
  have hid:id<nx1:=hdm _ _ h7;refine .inr ⟨hi,id,h3,h4,h5,?_,h6,?_⟩
  ·simp only[Kb];rw[if_neg or];exact hFi
  simp only[Kb];rw[if_neg or];exact h7
 ·intro F i h nx1 n b b' hi hlt hn;obtain⟨hle,hFh,hF0,acc,h1,h2⟩:=(hI _ _ _ _).1 hi;simp only at hlt;refine(hI _ _ _ _).2 ⟨eH hle (aAf _ or) b',hsub _ _ hFh,?_,acc,?_,?_⟩
  ·simp only[Kb];rw[if_neg or];exact hF0
  ·simp only[Kb];rw[if_neg or];exact h1
  rcases h2 with h2|⟨hi,id,h3,h4,h5,hFi,h6,h7⟩
  ·exact .inl h2
  have hne:id≠n:=fun e=>by rw[e,hn] at hFi;cases hFi
  refine .inr ⟨hi,id,h3,h4,h5,?_,h6,?_⟩
  ·simp only[Kb];rw[if_neg hne];exact hFi
  simp only[Kb];rw[if_neg hne];exact h7
 ·exact(hI _ _ _ _).2 ⟨Kc _,leo hd,aAf _ or, .sl .leaf .nil [],by simp[Kb], .inl ⟨rfl,rfl⟩⟩
 ·rintro F i ⟨k,ss⟩ ⟨l,hl⟩ h nx1 Y hii hFn hnx hY hdm;obtain⟨aCN,hFh,hF0,acc,h1,h2⟩:=(hI _ _ _ _).1 hii;simp only at hnx hY hFn;have hFd:=hdm.le hFh;have hil:i.length≤8:=by
   have:=congrArg KN hl;unfold pP at this;simp only[Kv,jL] at this;omega
  have aO1:nx+1<nx1:=or;have e7:(nx+1=nx1+1)=False:=fls;have e8:(nx+2=nx1+1)=False:=fls;have e9:(nx+2=nx+1)=False:=fls;have e11:(nx+2=nx1)=False:=fls;simp only[aAR,D7,List.set_cons_succ,List.set_cons_zero];refine au ?_;refine lP (by simp only[go_sem,reduceIte,jA,jB,jC,jD,reduceCtorEq,jE,jF];exact hY) fun Y'=>?_;refine Zn ?_;refine bK (cG ?_);have hm:(((i++[(k,ss)]).map KB).map kV)=(i.map KB).map kV++[.int .i64 k]:=by simp[kV]
  have hone:∀(h'':Hp) (nx2 id:Nat),F.le h''→nx1≤id→h'' (nx+1)=some (.arr .leaf [.rs id .leaf 0 (i.length+1)])→h'' (nx+2)=some Y'→h'' id=some (.arr .leaf ((i.map KB).map kV++[.int .i64 k]))→∀sl,fK 1 (mX (nx+2) Y' (I F (i++[(k,ss)])) (fun _ _ _=>False)) .normal ⟨sl,h'',nx2⟩:=by
   intro h'' nx2 id q1 q2 q3 q4 q5 sl;exact aU (fV q4 ((hI _ _ _ _).2 ⟨aCN,q1,hF0,_,q3, .inr ⟨Zm,id,or,or,or,aS.none hFd q2,Zm,by rw[hm];exact q5⟩⟩))
  generalize hQ:fK 1 (mX (nx+2) Y' (I F (i++[(k,ss)])) (fun _ _ _=>False)) .normal=Qn at hone⊢;have hFx:∀n,(nx1≤n∨n=nx+1∨n=nx+2)→F n=none:=fun n hn=>by
   rcases hn with hn|rfl|rfl
   ·exact aS.none hFd hn
   ·exact hF0
   exact hFn
  have aCu:∀n,(nx1≤n∨n=nx+1∨n=nx+2)→∀{h2:Hp},F.le h2→∀b,F.le (h2.set n b):=fun n hn h2 q b=>eH q (hFx n hn) b;rcases h2 with⟨rfl,rfl⟩|⟨aAk,id,h3,h4,h5,hFi,rfl,h7⟩
  ·refine aun (e4 h1 e7 e8 aO1) ?_;refine fO rfl rfl Zm (by simp only[jL,jM];omega) ?_;refine Zn ?_;refine aue (e4 h1 e7 e8 aO1) ?_;refine hone _ _ (nx1+1) ?_ or ?_ ?_ ?_ _
   ·repeat (first|exact hFh|refine aCu _ or ?_ _)
   ·simp only[h1,e7,e8,go_sem,reduceIte,jA,jB,jC,jD,reduceCtorEq,jE,jF]
   ·simp only[h1,e7,e8,e9,e11,go_sem,reduceIte,jA,jB,jC,jD,reduceCtorEq,jE,jF]
   have e10:(nx1+1=nx+1)=False:=fls;simp only[e10,Kk,jQ,go_sem,reduceIte,jA,jB,jC,jD,reduceCtorEq,jE,jF]
  have hid:id<nx1:=hdm _ _ h7;have f3:(id=nx+1)=False:=fls h4;have f4:(id=nx+2)=False:=fls h5;have f5:(id=nx1+1)=False:=fls;have f6:(nx+1=id)=False:=fls (fun e=>h4 e.symm);have f7:(nx+2=id)=False:=fls (fun e=>h5 e.symm);have hlen:((i.map KB).map kV).length=i.length:=Zm;refine aue (e12 h1 h7 e7 e8 aO1 hlen hil f3 f4 f5 f6 (e2 f7 hid)) ?_;refine hone _ _ (nx1+1) ?_ or ?_ ?_ ?_ _
  ·repeat (first|exact hFh|refine aCu _ or ?_ _|refine lU ?_ hFi)
  ·simp only[h1,e7,e8,f6,go_sem,reduceIte,jA,jB,jC,jD,reduceCtorEq,jE,jF]
  ·simp only[h1,e7,e8,e9,e11,f7,go_sem,reduceIte,jA,jB,jC,jD,reduceCtorEq,jE,jF]
  have e10:(nx1+1=nx+1)=False:=fls;simp only[e10,go_sem,reduceIte,jA,jB,jC,jD,reduceCtorEq,jE,jF]
 intro F xs aAh hFF h nx1 hii hnx hdm;obtain⟨aCN,hFh,hF0,acc,h1,h2⟩:=(hI _ _ _ _).1 hii;have hle:=Kg aCN hFh;simp only at hnx;have e1:(nx+1=nx+2)=False:=fls;refine aue (e2 h1 e1) ?_;subst aAh;rcases h2 with⟨h2,rfl⟩|⟨aAk,id,h3,h4,h5,hFi,rfl,h7⟩
 ·refine aC h' (lU hle (aAf _ or)) ⟨.inl ⟨by unfold bA;rw[h2];rfl,rfl⟩,Hp.same.aAr⟩
 refine aC (h'.set id (.arr .leaf ((bA r).map kV))) ?_ ⟨.inr ⟨?_,id,h3,?_,by simp[Ka]⟩,fun m hm=>by simp only[Ka];rw[if_neg or]⟩
 ·refine xX (lU hle (aAf _ or)) ?_;simp only[Hp.aAw];rw[if_neg h5,h7];rfl
 ·unfold bA;simpa using aAk
 unfold bA;simp only[jK,go_sem,reduceIte,jA,jB,jC,jD,reduceCtorEq,jE,jF]
theorem Aj{k:Sh}{v:V}(h:v.fits k=true):v.loose.fits k=true:=by
 cases k with
 |leaf=>rw[fX] at h⊢;exact nY h
 |agg n=>
  cases v with
  |agg cs=>
   simp only[V.fits,V.loose,Ku,decide_eq_true_eq,jK,KI,KE] at h⊢;refine⟨h.1,?_⟩;rintro x ⟨c,hc,rfl⟩;have:=h.2 c hc;split<;>first|rfl|exact this
  |_=>cases h
theorem z7{K:Ker}{k:Sh}{v:V}{cv:Value}{j:Nat}(hf:v.fits k=true)(hj:j<k.size)(h:VR K (v.cell j) cv):VR K (v.loose.cell j) cv:=by
 cases k with
 |leaf=>
  rw[fX] at hf;have hj0:j=0:=by simp[Sh.size] at hj;exact hj
  subst hj0;rw[fA hf] at h;rw[fA (nY hf)];exact h.loose
 |agg n=>
  cases v with
  |agg cs=>
   simp only[V.fits,Ku,decide_eq_true_eq,KI] at hf;simp only[Sh.size] at hj;have hjc:j<cs.length:=or;show VR K ((cs.map _).getD j V.undef) cv;have h:VR K (cs.getD j V.undef) cv:=h;have hl:=hf.2 (cs.getD j V.undef) (by rw[Kd,Ke hjc];exact Kj _);rw[Kd,KG,Ke hjc];rw[Kd,Ke hjc] at h hl;simp only[Option.map_some,Option.getD_some] at h hl⊢;generalize cs[j]=c at h hl;cases c with
   |sl k o es=>have:=h.loose;cases o<;>exact this
   |_=>exact h
  |_=>cases hf
theorem DX{sl:List V}{h:Hp}{nx n:Nat}{k:Sh}{es:List V}(hn:h n=some (.arr k es)):tH ⟨sl,h,nx⟩ ⟨sl,h.set n (.arr k (es.map V.loose)),nx⟩:=by
 intro K0 K nx0 a r;refine⟨K,rfl,r.le,r.aAD,?_,r.live,r.nx,r.defers⟩;have hr:=r.rel;have hex:∀m b,(h.set n (.arr k (es.map V.loose))) m=some b→∃b',h m=some b':=fun m b e=>by
  simp only[Ka] at e;split at e
  ·rename_i hm;exact⟨_,by rw[hm];exact hn⟩
  exact⟨b,e⟩
 refine⟨fun m b e=>?_,fun m b e=>?_,fun m b e=>?_,fun m m' b b' e e'=>?_,hr.size⟩
 ·obtain⟨b',h'⟩:=hex m b e;exact hr.lt m b' h'
 ·obtain⟨b',h'⟩:=hex m b e;exact hr.base m b' h'
 ·simp only[Ka] at e;split at e
  ·rename_i hm;subst hm;cases e;have hb:=hr.blk m _ hn;cases hb with
   |arr _ _ c T hh hsz hi hfit hv=>
    refine .arr k _ c T hh (by rw[jK];exact hsz) hi (fun e he=>?_) fun i hi j hj=>?_
    ·obtain⟨x,hx,rfl⟩:=KE.1 he;exact Aj (hfit x hx)
    rw[jK] at hi;have h1:=hv i hi j hj;rw[Kd,Ke hi] at h1;rw[Kd (l:=es.map V.loose),KG,Ke hi];exact z7 (hfit _ (Kj _)) hj h1
  exact hr.blk m b e
 obtain⟨c,h1⟩:=hex m b e;obtain⟨c',h2⟩:=hex m' b' e';exact hr.inj m m' c c' h1 h2
theorem Bg:aE Tryz.prog 74=some (LB.aDq .leaf 16):=Zz
theorem CJ(l:Li)(h:Hp):aM Tryz.prog 73 [l.v] h (.int .i64 (if l.k=1 then 1 else if l.k=2 then 2 else 3)):=by
 refine aJ (fun L=>trivial) fun h' nx hh=>aB L.bA4 fun hd=>?_;have hf:=Li.aAC l;obtain⟨T,hT,hk⟩:∃T,l.v= .agg T∧T.getD 0 (.tup [])= .int .i64 l.k:=⟨_,rfl,rfl⟩;rw[hT] at hf⊢;refine ZK ?_;by_cases h1:l.k=1
 ·have g1:(l.k==1)=true:=bqt;refine aue (e3 hf hk g1) ?_;exact aC h' (leo hd) ⟨by rw[if_pos h1];rfl,rfl⟩
 have g1:(l.k==1)=false:=bqf;rw[if_neg h1];by_cases h2:l.k=2
 ·have g2:(l.k==2)=true:=bqt;refine aue (e4 hf hk g1 g2) ?_;exact aC h' (leo hd) ⟨by rw[if_pos h2];rfl,rfl⟩
 have g2:(l.k==2)=false:=bqf;refine aue (e4 hf hk g1 g2) ?_;exact aC h' (leo hd) ⟨by rw[if_neg h2];rfl,rfl⟩
def iQ(s:List ByteArray):Nat→List Tr→List Nat
 |_,[]=>[]
 |i,t::r=>if (decide (t.x.size=0)||cR t.x s)=true then i::iQ s (i+1) r else iQ s (i+1) r
def rF(a:Am)(s:List ByteArray):List Nat:=iQ s 0 a.l
theorem kz(s:List ByteArray):∀(a:List Tr) (i:Nat) (t:Tr),iQ s i (a++[t])=iQ s i a++(if (decide (t.x.size=0)||cR t.x s)=true then [i+a.length] else [])
 | [],i,t=>by simp[iQ]
 |x::a,i,t=>by
  have e:i+1+a.length=i+(x::a).length:=by simp only[jL];omega
  simp only[jP,iQ,kz s a (i+1) t,e];split<;>simp
theorem sL(s:List ByteArray):∀(a:List Tr) (i:Nat),(iQ s i a).length≤a.length
 | [],i=>Kt _
 |x::a,i=>by
  have:=sL s a (i+1);unfold iQ;split<;>simp only[jL]<;>omega
theorem BP(a:Am)(ha:a.l.length≤1000000)(o:Own)(s:List ByteArray)(hs:s.length≤1000000000)(h:Hp):aM Tryz.prog 77 [a.v, .sl .leaf o (s.map V.str)] h (lst .leaf ((rF a s).map kV)):=by
 refine fW (fun L=>cV (fun L=>bF (f:=kV) (fun _=>trivial) _) L) fun h' nx hh=>aB L.bA2 fun hd=>?_;obtain⟨ar,ao,ts⟩:=a;have ha:ts.length≤1000000:=ha;refine ZK ?_;have hd:aS h' nx:=hd;refine aue (e3 Am.v.eq_1 trs.eq_1 (@jK Tr V)) ?_
 refine aP (fun q:Nat×Own×List Nat=>aD 31 0 [(1, .sl .leaf o (s.map V.str)),(5, .sl .leaf q.2.1 (q.2.2.map kV)),(9, .sl (.agg 4) ao (ts.map Tr.v)),(10, .int .i64 ts.length),(11, .int .i64 q.1)])
  (fun q hp nx1=>q.1≤ts.length∧nx+1≤nx1∧aS hp nx1∧Kf nx h' hp∧Acc hp (nx+1) q.2.1 (q.2.2.map kV)∧q.2.2=iQ s 0 (ts.take q.1))
  (fun q=>ts.length-q.1) (0, .nil,[]) ⟨Kx _,Zw,by exact dmo hd,by exact kep Hp.same.aAr, .inl ⟨rfl,rfl⟩,by simp[iQ]⟩ (by simp only[WkL,aD,jH,jI,jJ,jK,Kk,go_sem,reduceIte,jA,jB,jC,jD,reduceCtorEq,jE,jF]) ?_
 rintro⟨i,oo,l⟩ hp nx1 ⟨hi,hnx,hdm,hsm,aAO,hl⟩;generalize hQ:aZ _ _ _ _ _=Q0;dsimp only at hi aAO hl;refine Zk ?_;rcases KA i ts.length with hlt|hge
 ·have hc:decide ((i:Int)<(ts.length:Int))=true:=dct;have hg:=aL Tr.v ts i hlt;have hw:IntKind.i64.wrap ((i:Int)+1)=((i+1:Nat):Int):=wrp;have aAW:iQ s 0 (ts.take (i+1))=iQ s 0 (ts.take i)++(if (decide (ts[i].x.size=0)||cR ts[i].x s)=true then [i] else []):=by
   rw[Ki hlt,kz,Kq,Nat.min_eq_left or,KM]
  have hlen:l.length≤1000000:=by
   rw[hl];have:=sL s (ts.take i) 0;rw[Kq] at this;omega
  rw[←hl] at aAW;generalize ts[i]=T at hg aAW;have hTf:=Tr.aAC T;have h0:=vT T.x;have C1:∀h:Hp,aM Tryz.prog 76 [.sl .leaf o (s.map V.str), .str T.x] h (.bool (cR T.x s)):=fun h=>kB o s hs T.x h;have hml:(l.map kV).length=l.length:=jK ..;by_cases ht:(decide (T.x.size=0)||cR T.x s)=true
  ·rw[if_pos ht] at aAW;cases h1:decide (T.x.size=0) with
   |true=>
    refine aue (e12 hc hg hlt Tr.v.eq_1 h0 h1 hw (@jK Tr V) jG hTf hlen hml) ?_;rw[←hQ];exact aF (i+1,_,l++[i]) Zw ⟨hlt,or,dmo hdm,gm hsm aAO,by dsimp only;rw[Kh];exact Acc.new _ Zm or,aAW.symm⟩ (by simp only[WkL,aD,jH,jI,jJ,Kh,Ko,Kk,kV,go_sem,reduceIte,jA,jB,jC,jD,reduceCtorEq,jE,jF])
   |false=>
    have h2:cR T.x s=true:=by rw[h1] at ht;simpa using ht
    rw[h2] at C1;refine aue (e12 hc hg hlt Tr.v.eq_1 h0 h1 hw (@jK Tr V) jG hTf hlen hml) ?_;rw[←hQ];exact aF (i+1,_,l++[i]) Zw ⟨hlt,or,dmo hdm,gm hsm aAO,by dsimp only;rw[Kh];exact Acc.new _ Zm or,aAW.symm⟩ (by simp only[WkL,aD,jH,jI,jJ,Kh,Ko,Kk,kV,go_sem,reduceIte,jA,jB,jC,jD,reduceCtorEq,jE,jF])
  rw[if_neg ht,Ks] at aAW;simp only[Bool.or_eq_true,not_or,Kz] at ht;have h1:=ht.1;rw[ht.2] at C1;refine aue (e12 hc hg hlt Tr.v.eq_1 h0 h1 hw (@jK Tr V) jG hTf hlen hml) ?_;rw[←hQ];exact aF (i+1,oo,l) Zw ⟨hlt,or,dmo hdm,kep hsm,acc aAO hdm,aAW.symm⟩ (by simp only[WkL,aD,jH,jI,jJ,go_sem,reduceIte,jA,jB,jC,jD,reduceCtorEq,jE,jF])
 have hc:decide ((i:Int)<(ts.length:Int))=false:=dcf;refine aue hc ?_;rw[←hQ];refine au ?_;rw[Kp or] at hl;refine aC hp (Kc _) ⟨?_,hsm.le hd (Kc _)⟩;subst hl;rcases aAO with⟨e,rfl⟩|⟨e,id,_,rfl,_⟩
 ·unfold rF;rw[e];rfl
 unfold rF;cases hm:(iQ s 0 ts).map kV with
 |nil=>exact absurd hm e
 |cons a b=>rfl
structure PS where
 k:Int
 i:Nat
 hv:List ByteArray
 wt:List ByteArray
 ky:List Nat
def PS.v(s:PS):V:= .agg [.int .i64 s.k, .int .i64 s.i,lst .leaf (s.hv.map V.str),lst .leaf (s.wt.map V.str),lst .leaf (s.ky.map kV)]
theorem PS.aAC(s:PS):s.v.fits (.agg 5)=true:=by
 show(true&&((V.int .i64 s.k).aAE&&((V.int .i64 s.i).aAE&&((lst .leaf (s.hv.map V.str)).aAE&&((lst .leaf (s.wt.map V.str)).aAE&&((lst .leaf (s.ky.map kV)).aAE&&true))))))=true;simp only[Cv];rfl
instance:Inhabited PS:=⟨⟨0,0,[],[],[]⟩⟩
def cY(l:Li)(k:Nat)(hv:List ByteArray):PS:=⟨if l.k=1 then 1 else if l.k=2 then 2 else 3,k,hv,nmL hv l.ts,if l.k=1∨l.k=2 then rF l.a hv else []⟩
def lG(r:Ru):List Nat→List ByteArray→List PS
 | [],_=>[]
 |k::ks,hv=>cY (r.b.getD k default) k hv::lG r ks (nmL hv (r.b.getD k default).ts)
def bG(r:Ru):List PS:=lG r (bA r) []
def cB(r:Ru):List Nat→List ByteArray→List ByteArray
 | [],hv=>hv
 |k::ks,hv=>cB r ks (nmL hv (r.b.getD k default).ts)
theorem yH(r:Ru):∀(a:List Nat) (k:Nat) (hv:List ByteArray),lG r (a++[k]) hv=lG r a hv++[cY (r.b.getD k default) k (cB r a hv)]
 | [],k,hv=>rfl
 |x::a,k,hv=>by simp only[jP,lG,cB,yH r a k]
theorem qO(r:Ru):∀(a:List Nat) (k:Nat) (hv:List ByteArray),cB r (a++[k]) hv=nmL (cB r a hv) (r.b.getD k default).ts
 | [],k,hv=>rfl
 |x::a,k,hv=>by simp only[jP,cB,qO r a k]
theorem pA(r:Ru):∀(a:List Nat) (hv:List ByteArray),(lG r a hv).length=a.length
 | [],hv=>rfl
 |x::a,hv=>by simp[lG,pA r a]
theorem ef(hv:List ByteArray):∀(ts:List Tr) (l:List ByteArray),nmL (hv++l.filter fun v=> !cR v hv) ts=hv++(nmL l ts).filter fun v=> !cR v hv
 | [],l=>rfl
 |t::ts,l=>by
  have key:nmT (hv++l.filter fun v=> !cR v hv) t=hv++(nmT l t).filter fun v=> !cR v hv:=by
   unfold nmT;by_cases h0:t.x.size=0
   ·simp[h0]
   by_cases h1:cR t.x l=true
   ·have h2:cR t.x (hv++l.filter fun v=> !cR v hv)=true:=by
     rw[eY,KC,KJ];by_cases h3:cR t.x hv=true
     ·exact .inl (eY.1 h3)
     exact .inr ⟨eY.1 h1,by simpa using h3⟩
    simp[h1,h2]
   rw[Kz] at h1;by_cases h3:cR t.x hv=true
   ·have h2:cR t.x (hv++l.filter fun v=> !cR v hv)=true:=by rw[eY,KC];exact .inl (eY.1 h3)
    simp[h0,h1,h2,h3]
   rw[Kz] at h3;have h2:cR t.x (hv++l.filter fun v=> !cR v hv)=false:=by
    rw[lK,KC,KJ];rintro(h|h)
    ·exact lK.1 h3 h
    exact lK.1 h1 h.1
   simp[h0,h1,h2,h3]
  show nmL (nmT _ t) ts=hv++(nmL (nmT l t) ts).filter _;rw[key,ef hv ts]
theorem um(hv:List ByteArray)(l:Li):nmL hv l.ts=hv++l.vars.filter fun v=> !cR v hv:=by
 have:=ef hv l.ts [];unfold Li.vars;simpa using this
def loO:Own→Own
 | .nil=> .nil
 |_=> .free
def Ru.lo(r:Ru):Ru:=⟨⟨r.h.r,loO r.h.o,r.h.l⟩,r.g,r.c,loO r.o,r.b,r.at_⟩
def dH(r:Ru)(l:List PS):V:= .agg [.str r.h.r,trs r.h.o r.h.l, .int .i64 r.g, .int .i64 r.c, .sl (.agg 17) r.o (r.b.map Li.v), .int .i64 r.at_,lst (.agg 5) (l.map PS.v)]
def ru0:Ru:=⟨⟨⟨#[]⟩, .nil,[]⟩,0,0, .nil,[],0⟩
def mA(r:Ru):Ru×List PS×Int:=if dF r=false then (ru0,[],2) else if eF r (kC r) false≠ [] then (ru0,[],8) else (r.lo,bG r,0)
def d8(r:Ru):V:= .tup [dH (mA r).1 (mA r).2.1,dC (mA r).2.2]
theorem AQ.acc{own:Own}{es:List V}{nx:Nat}{h:Hp}{v:V}{h':Hp}(ho:lst .leaf es= .sl .leaf own es)(hd:aS h nx)(c:AQ .leaf own es nx h v h'):∃o,v= .sl .leaf o es∧Acc h' nx o es∧Kf nx h h':=by
 rcases c with⟨h1,rfl,rfl⟩|⟨h1,id,h2,rfl,rfl⟩
 ·subst h1;cases es with
  |nil=>exact⟨.nil,rfl, .inl ⟨rfl,rfl⟩,Hp.same.aAr⟩
  |cons a b=>cases ho
 cases es with
 |nil=>rw[Be] at ho;injection ho with _ e _;exact absurd e.symm h1
 |cons a b=>exact⟨_,rfl, .inr ⟨Zm,id,h2,rfl,by simp[Ka]⟩,fun m hm=>by simp only[Ka];rw[if_neg or]⟩
theorem DH{h:Hp}{n0:Nat}{o:Own}{es:List V}(a:Acc h n0 o es):(V.sl .leaf o es).loose=lst .leaf es:=by
 rcases a with⟨rfl,rfl⟩|⟨h1,id,_,rfl,_⟩
 ·rfl
 cases es with
 |nil=>exact absurd rfl h1
 |cons a b=>rfl
theorem ah{P:Program}{f:FuncId}{args:List V}{h:Hp}{v:V}(hv:∀L,bM L args→v.names L)(hc:∀h' nx,h.has h'→aR P f args h' nx fun v' h'' _=>v'.aAs=v∧h'.le h''):aM P f args h v:=
 oY hv fun h' nx hh=>(hc h' nx hh).aOv fun v' h'' nx' _ _ hq=>⟨h',hq.2,hq.1,rfl⟩
theorem rO(r:Ru):∀k∈bA r,k<r.b.length:=by
 have key:∀(n:Nat) (s:List ByteArray) (left:List Nat),(∀k∈left,k<r.b.length)→∀p∈iZ r n s left,p.1<r.b.length:=by
  intro n;induction n with
  |zero=>intro s left _ p hp;cases hp
  |succ n ih=>
   intro s left hl p hp;unfold iZ at hp;split at hp
   ·cases hp
   rename_i aBs;rcases List.mem_cons.1 hp with rfl|hp
   ·rcases ei r s left with h|⟨i,h,hi⟩
    ·omega
    rw[h,jG];have:left.getD i 0=left[i]:=by rw[Kd,Ke hi];rfl
    dsimp only;rw[this];exact hl _ (Kj _)
   exact ih _ _ (fun k hk=>hl k (Ky hk)) p hp
 intro k hk;obtain⟨p,hp,rfl⟩:=KE.1 hk;exact key _ _ _ (fun k hk=>by simpa using hk) p hp
theorem vI(r:Ru)(hb:∀l∈r.b,bO l=true):∀(ks:List Nat) (hv:List ByteArray),(∀k∈ks,k<r.b.length)→(cB r ks hv).length≤hv.length+ks.length*2097158
 | [],hv,_=>by simp[cB]
 |k::ks,hv,h=>by
  have h1:=vI r hb ks (nmL hv (r.b.getD k default).ts) fun x hx=>h x (List.mem_cons_of_mem _ hx);have hk:=h k List.mem_cons_self;have h2:=nW (r.b.getD k default).ts hv;have h3:(r.b.getD k default).ts.length≤2097158:=by
   rw[Kd,Ke hk];exact kH (hb _ (Kj _))
  unfold cB;simp only[jL,KP,Nat.one_mul];omega
theorem lF{l:Li}(h:bO l=true):l.k=1∨l.k=2∨l.k=3:=by
 unfold bO at h;split at h
 ·rename_i hk;omega
 simp only[Ku,decide_eq_true_eq] at h;exact .inr (.inr h.1.1.1)
theorem Ru.aCI(r:Ru)(l:List PS)(L:Nat→Prop)(h:bM L [r.v]):(dH r.lo l).names L:=by
 have h:=h.1;simp only[Ru.v,V.names,bM] at h;obtain⟨_,⟨h1,h2⟩,_,_,⟨h3,h4⟩,_⟩:=h;have lo:∀(o:Own) n,loO o= .tok n→L n:=fun o n e=>by cases o<;>cases e
 refine⟨trivial,⟨lo _,h2⟩,trivial,trivial,⟨lo _,h4⟩,trivial,?_,trivial⟩;refine cV (fun L=>bF (fun s=>?_) _) L;exact⟨trivial,trivial,cV (fun L=>bF (f:=V.str) (fun _=>trivial) _) L,cV (fun L=>bF (f:=V.str) (fun _=>trivial) _) L,cV (fun L=>bF (f:=kV) (fun _=>trivial) _) L,trivial⟩
theorem ug(r:Ru){h:Hp}{n0:Nat}{oS:Own}{ps:List PS}(a:Acc h n0 oS (ps.map PS.v)):(V.agg [.str r.h.r, .sl (.agg 4) r.h.o (r.h.l.map Tr.v), .int .i64 r.g, .int .i64 r.c, .sl (.agg 17) r.o (r.b.map Li.v), .int .i64 r.at_, .sl (.agg 5) oS (ps.map PS.v)]).loose=dH r.lo ps:=by
 have h5:V.sl (.agg 5) (loO oS) (ps.map PS.v)=lst (.agg 5) (ps.map PS.v):=by
  rcases a with⟨h1,rfl⟩|⟨h1,id,_,rfl,_⟩
  ·rw[h1];rfl
  cases hm:ps.map PS.v with
  |nil=>exact absurd hm h1
  |cons a b=>rfl
 obtain⟨⟨hr,ho,hl⟩,g,c,o,b,at_⟩:=r;unfold dH Ru.lo;rw[←h5];cases ho<;>cases o<;>cases oS<;>rfl
theorem yv(k:Int)(i:Nat)(ow o2:Own)(hv w:List ByteArray)(how:lst .leaf (hv.map V.str)= .sl .leaf ow (hv.map V.str)){h:Hp}{n0:Nat}(a:Acc h n0 o2 (w.map V.str)):(V.agg [.int .i64 k, .int .i64 i, .sl .leaf ow (hv.map V.str), .sl .leaf o2 (w.map V.str), .sl .leaf .nil []]).loose= .agg [.int .i64 k, .int .i64 i,lst .leaf (hv.map V.str),lst .leaf (w.map V.str), .sl .leaf .nil []]:=by
 have h1:(V.sl .leaf ow (hv.map V.str)).loose=lst .leaf (hv.map V.str):=by
  rw[←how];unfold lst;split<;>rfl
 rw[←h1,←DH a];cases ow<;>cases o2<;>rfl
theorem zO(r:Ru)(h:Hp):aM Tryz.prog 29 [r.v] h (d8 r):=by
 have hnm:∀L,bM L [r.v]→(d8 r).names L:=fun L hL=>by
  unfold d8 mA;refine⟨?_,dS L _,trivial⟩;split
  ·simp[dH,ru0,V.names,bM,lst]
  split
  ·simp[dH,ru0,V.names,bM,lst]
  exact Ru.aCI r _ L hL
 refine ah hnm fun h' nx hh=>aB L.bB3 fun hd=>?_;have hd:aS h' nx:=hd;have C1:=fun h=>dw r h;have C2:=fun hr h=>vQ r hr h;have C3:=fun hr h=>ed r hr h;simp only[Ru.v] at C1 C2 C3;refine ZK ?_;unfold d8 mA;cases hr:dF r with
 |false=>
  rw[hr] at C1;clear C2 C3;refine aue (e2 Ru.v.eq_1 trs.eq_1) ?_;refine bC (by simp only[go_sem,reduceIte,jA,jB,jC,jD,reduceCtorEq,jE,jF]) h' (leo hd) ⟨?_,leo hd⟩;refine Zn ?_;rfl
 |true=>
  rw[hr] at C1
  replace C2:=C2 hr
  replace C3:=C3 hr
  obtain⟨b1,b2,b3⟩:=dE hr;rw[if_neg Zm];cases hsv:eF r (kC r) false with
  |cons a b=>
   rw[hsv] at C2;have g1:decide ((0:Int)<(((a::b).map V.str).length:Int))=true:=dct Zm;have g2:decide ((((a::b).map V.str).length:Int)>0)=true:=dct Zm;generalize (a::b).map V.str=q at C2 g1 g2;clear C3;refine aue (e4 Ru.v.eq_1 trs.eq_1 g1 g2) ?_;refine bC (by simp only[go_sem,reduceIte,jA,jB,jC,jD,reduceCtorEq,jE,jF]) h' (leo hd) ⟨?_,leo hd⟩;refine Zn ?_;rfl
  |nil=>
   rw[hsv] at C2;rw[if_neg Zm];obtain⟨oo,hoo⟩:=bX .leaf ((bA r).map kV);rw[hoo] at C3;have hol:(bA r).length≤8:=by
    unfold bA pP;rw[jK];exact Nat.le_trans (mP ..) b2
   have hz:decide ((0:Int)<((0:Nat):Int))=false:=rfl;refine aue (e4 Ru.v.eq_1 trs.eq_1 (@jK Nat V) hz) ?_;have aCt:=rO r;obtain⟨O,hO⟩:∃O,bA r=O:=⟨_,rfl⟩;have aPY:bG r=lG r O []:=by unfold bG;rw[hO]
   rw[hO] at hol aCt⊢;rw[aPY];have hbl:∀i,(cB r (O.take i) []).length≤16777264:=fun i=>by
    have h1:=vI r b3 (O.take i) [] fun k hk=>aCt k (List.mem_of_mem_take hk);have h2:(O.take i).length*2097158≤8*2097158:=Nat.mul_le_mul_right _ (by rw[Kq];omega);simp only[jM] at h1;omega
   obtain⟨RB,hRB⟩:∃RB,V.agg [.str r.h.r, .sl (.agg 4) r.h.o (r.h.l.map Tr.v), .int .i64 r.g, .int .i64 r.c, .sl (.agg 17) r.o (r.b.map Li.v), .int .i64 r.at_]=RB:=⟨_,rfl⟩
   refine aP (fun q:Nat×Own=>aD 82 0 [(1, .ptr nx (.agg 6) 0 0),(2, .ptr (nx+1) (.agg 7) 0 0),(3, .nilIface),(4, .ptr (nx+2) (.agg 7) 0 0),(5,lst .leaf ((cB r (O.take q.1) []).map V.str)),(28, .sl .leaf oo (O.map kV)),(29, .int .i64 O.length),(30, .int .i64 q.1)])
    (fun q hp nx1=>q.1≤O.length∧nx+4≤nx1∧aS hp nx1∧Kf nx h' hp∧hp nx=some (.arr (.agg 6) [.agg [.str r.h.r, .sl (.agg 4) r.h.o (r.h.l.map Tr.v), .int .i64 r.g, .int .i64 r.c, .sl (.agg 17) r.o (r.b.map Li.v), .int .i64 r.at_]])∧
      hp (nx+1)=some (.arr (.agg 7) [.agg [.str ⟨#[]⟩, .sl (.agg 4) .nil [], .int .i64 0, .int .i64 0, .sl (.agg 17) .nil [], .int .i64 0, .sl (.agg 5) .nil []]])∧
      hp (nx+2)=some (.arr (.agg 7) [.agg [.str r.h.r, .sl (.agg 4) r.h.o (r.h.l.map Tr.v), .int .i64 r.g, .int .i64 r.c, .sl (.agg 17) r.o (r.b.map Li.v), .int .i64 r.at_, .sl (.agg 5) q.2 ((lG r (O.take q.1) []).map PS.v)]])∧
      Acc hp (nx+4) q.2 ((lG r (O.take q.1) []).map PS.v))
    (fun q=>O.length-q.1) (0, .nil) ⟨Kx _,Zw,by exact dmo hd,by exact kep Hp.same.aAr,by simp only[go_sem,reduceIte,jA,jB,jC,jD,reduceCtorEq,jE,jF],by simp only[go_sem,reduceIte,jA,jB,jC,jD,reduceCtorEq,jE,jF],by simp only[go_sem,reduceIte,jA,jB,jC,jD,reduceCtorEq,jE,jF];rfl, .inl ⟨rfl,rfl⟩⟩ (by simp only[WkL,aD,jH,jI,jJ,jK,cB,Be,go_sem,reduceIte,jA,jB,jC,jD,reduceCtorEq,jE,jF]) ?_
   rintro⟨i,oS⟩ hp nx1 ⟨hi,hnx,hdm,hsm,hb0,hb1,hb2,aDF⟩;generalize hQ:aZ _ _ _ _ _=Q0;dsimp only at hi aDF hb2;refine Zk ?_;have n1:nx<nx1:=or;have n2:nx+1<nx1:=or;have n3:nx+2<nx1:=or;rcases KA i O.length with hlt|hge
   ·have hc:decide ((i:Int)<(O.length:Int))=true:=dct;have hg:(O.map kV).getD i (.tup [])= .int .i64 O[i]:=aL kV O i hlt;have hw:IntKind.i64.wrap ((i:Int)+1)=((i+1:Nat):Int):=wrp;have hkb:=aCt O[i] (Kj _);have hpa:lG r (O.take (i+1)) []=lG r (O.take i) []++[cY (r.b.getD O[i] default) O[i] (cB r (O.take i) [])]:=by rw[Ki hlt,yH]
    have hba:cB r (O.take (i+1)) []=nmL (cB r (O.take i) []) (r.b.getD O[i] default).ts:=by rw[Ki hlt,qO]
    have hvl:=hbl i;have hpl:(lG r (O.take i) []).length≤8:=by rw[pA,Kq];omega
    generalize cB r (O.take i) []=hv at*;generalize lG r (O.take i) []=ps at*;have hD:r.b.getD O[i] default=r.b[O[i]]:=by rw[Kd,Ke hkb];rfl
    have hg2:=aL Li.v r.b O[i] hkb;have hrl:=b3 r.b[O[i]] (Kj _);rw[hD] at hpa hba;generalize r.b[O[i]]=l at hg2 hrl hpa hba;generalize O[i]=k at hg hkb hg2 hpa;have hlv:=sK hrl;have hf:=Li.aAC l;obtain⟨o1,ho1⟩:=bX .leaf (l.vars.map V.str);have C4:∀h:Hp,aM Tryz.prog 75 [l.v] h (.sl .leaf o1 (l.vars.map V.str)):=fun h=>ho1▸xP l hrl h;have C3:=fun h=>CJ l h;obtain⟨T,hT,hk0,hat⟩:∃T,l.v= .agg T∧T.getD 0 (.tup [])= .int .i64 l.k∧(T.drop 1).take 2=[.str l.a.r,trs l.a.o l.a.l]:=⟨_,rfl,rfl,rfl⟩;rw[hT] at hg2 hf C3 C4;obtain⟨ow,how⟩:=bX .leaf (hv.map V.str);rw[how];clear C1 C2;refine aue (e12 hc hg hlt hb0 n1 hg2 hf hkb hk0 (@jK Nat V) (@jK Li V) jG) ?_;refine aV ((zX Bg or ow (hv.map V.str) (by rw[jK];omega) (fun e=>by rw[e] at how;cases hm:hv.map V.str with|nil=>rfl|cons a b=>rw[hm] at how;cases how) _ (nx1+2)).dom.mono ?_);rintro vC h2 nx2 aAS ⟨hcl,hd2,_⟩;have hdA:aS ((hp.set nx1 (.arr (.agg 17) [.agg [.int .i64 0, .str ⟨#[]⟩, .sl (.agg 4) .nil [], .int .i64 0, .int .i64 0, .str ⟨#[]⟩, .int .i64 0, .int .i64 0, .str ⟨#[]⟩, .sl (.agg 6) .nil [], .int .i64 0, .str ⟨#[]⟩, .int .i64 0, .int .i64 0, .str ⟨#[]⟩, .sl (.agg 6) .nil [], .int .i64 0]])).set nx1 (.arr (.agg 17) [.agg T])) (nx1+2):=dmo hdm;obtain⟨oc,rfl,aPy,hs2⟩:=hcl.acc how hdA;unfold bW;refine Zn ?_;have hb8:h2 nx1=some (.arr (.agg 17) [.agg T]):=by rw[hs2 nx1 or];simp only[go_sem,reduceIte,jA,jB,jC,jD,reduceCtorEq,jE,jF]
    have n8:nx1<nx2:=or;have aZO:=hdm;refine aue (e6 hf hb8 n8 trs.eq_1 (@jK ByteArray V) hc) ?_;obtain⟨kd,hkd⟩:∃kd:Int,(if l.k=1 then 1 else if l.k=2 then 2 else 3)=kd:=⟨_,rfl⟩;rw[hkd];have hwt:nmL hv l.ts=hv++l.vars.filter fun v=> !cR v hv:=um hv l;generalize hSQ:mD (lwp Tryz.prog _) _=SQ
    refine aP (fun q:Nat×Own=>aD 82 0 [(1, .ptr nx (.agg 6) 0 0),(2, .ptr (nx+1) (.agg 7) 0 0),(3, .nilIface),(4, .ptr (nx+2) (.agg 7) 0 0),(5, .sl .leaf ow (hv.map V.str)),(8, .ptr nx1 (.agg 17) 0 0),(9, .ptr nx2 (.agg 5) 0 0),(28, .sl .leaf oo (O.map kV)),(29, .int .i64 O.length),(30, .int .i64 i),(47, .sl .leaf o1 (l.vars.map V.str)),(48, .int .i64 l.vars.length),(49, .int .i64 q.1)])
     (fun q hp3 nx3=>q.1≤l.vars.length∧nx2+2≤nx3∧aS hp3 nx3∧Kf (nx1+2) h2 hp3∧hp3 nx2=some (.arr (.agg 5) [.agg [.int .i64 kd, .int .i64 k, .sl .leaf ow (hv.map V.str), .sl .leaf q.2 ((hv++(l.vars.take q.1).filter fun v=> !cR v hv).map V.str), .sl .leaf .nil []]])∧
       Acc hp3 (nx1+2) q.2 ((hv++(l.vars.take q.1).filter fun v=> !cR v hv).map V.str))
     (fun q=>l.vars.length-q.1) (0,oc) ⟨Kx _,Zw,by exact dmo hd2,by exact kep Hp.same.aAr,by simp only[KL,KK,Ks,go_sem,reduceIte,jA,jB,jC,jD,reduceCtorEq,jE,jF],by simp only[KL,KK,Ks];exact acc aPy hd2⟩ (by simp only[WkL,aD,jH,jI,jJ,jK,go_sem,reduceIte,jA,jB,jC,jD,reduceCtorEq,jE,jF]) ?_
    rintro⟨j,ow2⟩ hp3 nx3 ⟨hj,aD3,hdm,aDr,hb9,aAO⟩;generalize hQ2:aZ _ _ _ _ _=Q2;dsimp only at hj aAO hb9;refine Zk ?_;have n9:nx2<nx3:=or;rcases KA j l.vars.length with hjl|hjg
    ·have hc2:decide ((j:Int)<(l.vars.length:Int))=true:=dct;have hgv:=aL V.str l.vars j hjl;have hw2:IntKind.i64.wrap ((j:Int)+1)=((j+1:Nat):Int):=wrp;have htk:hv++(l.vars.take (j+1)).filter (fun v=> !cR v hv)=(hv++(l.vars.take j).filter fun v=> !cR v hv)++(if cR l.vars[j] hv=true then [] else [l.vars[j]]):=by
      rw[Ki hjl,List.filter_append,List.append_assoc];congr 2;cases hq:cR l.vars[j] hv<;>simp[hq]
     have hwl:(hv++(l.vars.take j).filter fun v=> !cR v hv).length≤100000000:=by
      rw[Kv];have:=List.length_filter_le (fun v=> !cR v hv) (l.vars.take j);rw[Kq] at this;omega
     generalize (hv++(l.vars.take j).filter fun v=> !cR v hv)=W at hb9 aAO htk hwl;generalize l.vars[j]=x at hgv htk;have C1:∀h:Hp,aM Tryz.prog 76 [.sl .leaf ow (hv.map V.str), .str x] h (.bool (cR x hv)):=fun h=>kB ow hv or x h;have hml:(W.map V.str).length=W.length:=jK ..;cases hb:cR x hv with
     |true=>
      rw[hb] at C1 htk;rw[if_pos rfl,Ks] at htk;refine aue (e6 hc2 hgv hjl (@jK ByteArray V) jG hw2) ?_;rw[←hQ2];exact aF (j+1,ow2) Zw ⟨hjl,or,dmo hdm,kep aDr,by dsimp only;rw[htk];exact hb9,by dsimp only;rw[htk];exact aAO⟩ (by simp only[WkL,aD,jH,jI,jJ,go_sem,reduceIte,jA,jB,jC,jD,reduceCtorEq,jE,jF])
     |false=>
      rw[hb] at C1 htk;rw[if_neg Zm] at htk;have aDB:∀H:Hp,H.aAy ow2 nx2=if ow2= .tok nx2 then none else H nx2:=fun H=>by
       unfold Hp.aAy;cases ow2 with
       |tok m=>
        simp only[Hp.del,Own.tok.injEq];by_cases hm:nx2=m
        ·simp[hm]
        rw[if_neg hm,if_neg (fun e=>hm e.symm)]
       |_=>simp
      have aY7:(ow2= .tok nx2)=False:=eq_false fun e=>by
       rcases aAO with⟨_,h⟩|⟨_,id,_,h,h3⟩
       ·rw[h] at e;cases e
       rw[h] at e;injection e with e;rw[e,hb9] at h3;cases h3
      refine aue (e12 hc2 hgv hjl (@jK ByteArray V) jG hw2 hb9 n9 hml hwl aDB aY7) ?_;rw[←hQ2];have f9:(nx3+1=nx2)=False:=fls;refine aF (j+1, .tok (nx3+1)) Zw ⟨hjl,or,dmo hdm,gm aDr aAO,?_,?_⟩ (by simp only[WkL,aD,jH,jI,jJ,go_sem,reduceIte,jA,jB,jC,jD,reduceCtorEq,jE,jF])
      ·dsimp only;rw[htk,Kh];simp only[Ko,Kk,go_sem,reduceIte,jA,jB,jC,jD,reduceCtorEq,jE,jF]
      dsimp only;rw[htk,Kh];exact .inr ⟨Zm,nx3+1,or,rfl,by simp only[f9,go_sem,reduceIte,jA,jB,jC,jD,reduceCtorEq,jE,jF]⟩
    have hc2:decide ((j:Int)<(l.vars.length:Int))=false:=dcf;refine aue hc2 ?_;rw[←hQ2];refine au ?_;rw[Kp or,←hwt] at hb9 aAO;rw[←hSQ];refine dA (DX (n:=nx2) (k:= .agg 5) hb9) ?_;simp only[Ko,Kk];rw[yv kd k ow ow2 hv (nmL hv l.ts) how aAO];clear aAO hQ2 hSQ hwt;have aAm:∀m,m<nx1→hp3 m=hp m:=fun m hm=>by
     rw[aDr m or,hs2 m or];simp only[Ka];rw[if_neg or,if_neg or]
    have hc0:=(aAm nx n1).trans hb0;have hc1:=(aAm (nx+1) n2).trans hb1;have hc2:=(aAm (nx+2) n3).trans hb2;have hc8:=(aDr nx1 or).trans hb8;have aXi:Kf nx h' hp3:=fun m hm=>by rw[aAm m or];exact hsm m hm
    have aAO:Acc hp3 (nx+4) oS (ps.map PS.v):=aDF.imp id fun⟨a,id,b,c,d⟩=>⟨a,id,b,c,by rw[aAm id (by rcases aDF with h|⟨_,id2,_,h2,h3⟩;exact absurd h.1 a;rw[c] at h2;injection h2 with h2;rw[h2];exact aZO _ _ h3)];exact d⟩;have m1:nx<nx3:=or;have m2:nx+1<nx3:=or;have m3:nx+2<nx3:=or;have m4:nx1<nx3:=or;have k1:(nx1=nx2)=False:=fls;have k2:(nx=nx2)=False:=fls;have k3:(nx+1=nx2)=False:=fls;have k4:(nx+2=nx2)=False:=fls;have k5:(nx2=nx+2)=False:=fls;have hPS:(cY l k hv).v= .agg [.int .i64 kd, .int .i64 k,lst .leaf (hv.map V.str),lst .leaf ((nmL hv l.ts).map V.str),lst .leaf ((if l.k=1∨l.k=2 then rF l.a hv else []).map kV)]:=by rw[←hkd];rfl
    generalize nmL hv l.ts=W at hPS hba hb9⊢;obtain⟨ow3,aPZ⟩:=bX .leaf (W.map V.str);have hml:(ps.map PS.v).length=ps.length:=jK ..;rw[how,aPZ] at hPS⊢;have hd0:∀H:Hp,H.aAy oS nx=H nx:=fun H=>kZ fun id e=>by have:=aAO.ge id e;omega
    have hd1:∀H:Hp,H.aAy oS (nx+1)=H (nx+1):=fun H=>kZ fun id e=>by have:=aAO.ge id e;omega
    have hd2:∀H:Hp,H.aAy oS (nx+2)=H (nx+2):=fun H=>kZ fun id e=>by have:=aAO.ge id e;omega
    have hd9:∀H:Hp,H.aAy oS nx2=H nx2:=fun H=>kZ fun id e q=>by
     rcases aAO with h|⟨_,id2,_,h2,h3⟩
     ·rw[h.2] at e;cases e
     rw[h2] at e;injection e with e;rw[e,←q,hb9] at h3;cases h3
    by_cases hk3:l.k=3
    ·have g3:(kd != 3)=false:=bnf (by rw[←hkd,hk3];rfl);rw[if_neg or] at hPS;have hPS:(cY l k hv).v= .agg [.int .i64 kd, .int .i64 k, .sl .leaf ow (hv.map V.str), .sl .leaf ow3 (W.map V.str), .sl .leaf .nil []]:=hPS;refine aue (e11 hc hc0 hc2 hc8 m3 g3 n9 hpl hml (e4 k4 k5 k1 (e4 hd0 hd1 hd2 hd9)) (e2 hw m1)) ?_;rw[←hQ];have hW:lst .leaf ((cB r (O.take (i+1)) []).map V.str)= .sl .leaf ow3 (W.map V.str):=by rw[hba,aPZ]
     refine aF (i+1, .tok (nx3+1)) Zw ⟨hlt,or,dmo hdm,gm aXi aAO,by simp only[hd0,hc0,m1,k2,go_sem,reduceIte,jA,jB,jC,jD,reduceCtorEq,jE,jF],by simp only[hd1,hc1,m2,k3,go_sem,reduceIte,jA,jB,jC,jD,reduceCtorEq,jE,jF],?_,?_⟩ (by simp only[WkL,aD,jH,jI,jJ,hW,go_sem,reduceIte,jA,jB,jC,jD,reduceCtorEq,jE,jF])
     ·dsimp only;rw[hpa,Kh,Ko,Kk,hPS];simp only[go_sem,reduceIte,jA,jB,jC,jD,reduceCtorEq,jE,jF]
     dsimp only;rw[hpa,Kh,Ko,Kk,hPS];exact .inr ⟨Zm,nx3+1,or,rfl,by simp only[(fls:(nx3+1=nx+2)=False),go_sem,reduceIte,jA,jB,jC,jD,reduceCtorEq,jE,jF]⟩
    have aPj:l.k=1∨l.k=2:=by
     have:=(lF hrl);omega
    have g3:(kd != 3)=true:=by
     rw[←hkd];rcases aPj with e|e<;>simp[e]
    have hlp:bB (.agg 2) 1 (.agg T)= .agg [.str l.a.r,trs l.a.o l.a.l]:=congrArg V.agg hat
    obtain⟨o5,ho5⟩:=bX .leaf ((rF l.a hv).map kV);have C2:=fun h=>BP l.a (by
     unfold bO at hrl;rw[if_pos aPj] at hrl;unfold mU at hrl;simp only[Ku,decide_eq_true_eq] at hrl;have:=hrl.1.1.1.2;omega) ow hv or h
    simp only[Am.v,trs] at C2;rw[ho5] at C2;rw[if_pos aPj,ho5] at hPS;have aZD:((rF l.a hv).map kV).length=(rF l.a hv).length:=jK ..;refine aue (e11 hc hc0 hc2 hc8 m3 g3 n9 hpl hml (e4 k4 k5 k1 (e5 hd0 hd1 hd2 hd9 m4)) (e5 hw m1 aZD hlp trs.eq_1)) ?_;rw[←hQ];have hW:lst .leaf ((cB r (O.take (i+1)) []).map V.str)= .sl .leaf ow3 (W.map V.str):=by rw[hba,aPZ]
    refine aF (i+1, .tok (nx3+2)) Zw ⟨hlt,or,dmo hdm,gm aXi aAO,by simp only[hd0,hc0,m1,k2,go_sem,reduceIte,jA,jB,jC,jD,reduceCtorEq,jE,jF],by simp only[hd1,hc1,m2,k3,go_sem,reduceIte,jA,jB,jC,jD,reduceCtorEq,jE,jF],?_,?_⟩ (by simp only[WkL,aD,jH,jI,jJ,hW,go_sem,reduceIte,jA,jB,jC,jD,reduceCtorEq,jE,jF])
    ·dsimp only;rw[hpa,Kh,Ko,Kk,hPS];simp only[go_sem,reduceIte,jA,jB,jC,jD,reduceCtorEq,jE,jF]
    dsimp only;rw[hpa,Kh,Ko,Kk,hPS];exact .inr ⟨Zm,nx3+2,or,rfl,by simp only[(fls:(nx3+2=nx+2)=False),go_sem,reduceIte,jA,jB,jC,jD,reduceCtorEq,jE,jF]⟩
   have hc:decide ((i:Int)<(O.length:Int))=false:=dcf;refine aue hc ?_;rw[←hQ];rw[Kp or] at aDF hb2;refine aue (e5 hb1 hb2 n1 n2 n3) ?_;refine bC (by simp only[hb1,hb2,go_sem,reduceIte,jA,jB,jC,jD,reduceCtorEq,jE,jF]) h' (lef hd (hsm.le hd (Kc _))) ⟨?_,Kc _⟩;rw[←ug r aDF];refine Zn ?_;rfl
end Go.Proofs.YtlhedpgobaellaaGreatDoor
namespace Go.Proofs.YtlhedpgobaellaaGreatDoor
open Go.RowKit Go.Sort
theorem qN(r:Ru):∀(ks:List Nat) (hv:List ByteArray),hv.Nodup→(cB r ks hv).Nodup
 | [],hv,h=>h
 |k::ks,hv,h=>qN r ks _ (mi h)
end Go.Proofs.YtlhedpgobaellaaGreatDoor
namespace Go.Proofs.YtlhedpgobaellaaGreatDoor
open Go.RowKit Go.Sort
attribute [local irreducible] IntKind.wrap
def gD(ps:List PS):List ByteArray:=(ps.getD (ps.length-1) default).wt
theorem tK(r:Ru)(ps:List PS)(hp:ps.length≤1000)(hw:(gD ps).length≤1000000000)(h:Hp):aM Tryz.prog 69 [dH r ps] h (lst .leaf ((gD ps).map V.str)):=by
 refine aJ (fun L=>cV (fun L=>bF (f:=V.str) (fun _=>trivial) _) L) fun h' nx hh=>aB L.bBH fun hd=>?_;obtain⟨oS,hoS⟩:=bX (.agg 5) (ps.map PS.v);unfold dH;rw[hoS];simp only[List.length_cons,List.length_nil,Nat.reduceAdd,Nat.reduceSub,List.replicate_succ,List.replicate_zero,List.cons_append,List.nil_append,V.undef];by_cases hlp:ps.length=0
 ·have hz:((ps.length:Int)==0)=true:=by rw[hlp];rfl
  have hnil:ps=[]:=List.length_eq_zero_iff.1 hlp;refine aue (e3 trs.eq_1 hz (@KD PS V)) ?_;refine aC h' (leo hd) ⟨?_,rfl⟩;rw[hnil];rfl
 have hlp:0<ps.length:=or;have hz:((ps.length:Int)==0)=false:=bqf;have hg:(ps.map PS.v).getD (ps.length-1) (.tup [])=(ps.getD (ps.length-1) default).v:=by
  rw[aL PS.v ps (ps.length-1) or,Kd,Ke or];rfl
 have hw1:IntKind.i64.wrap ((ps.length:Int)-1)=((ps.length-1:Nat):Int):=by
  rw[(wrp:IntKind.i64.wrap ((ps.length:Int)-1)=(ps.length:Int)-1)];omega
 obtain⟨ow,how⟩:=bX .leaf ((gD ps).map V.str);have C1:∀h:Hp,aM Tryz.prog 74 [.sl .leaf ow ((gD ps).map V.str)] h (V.sl .leaf ow ((gD ps).map V.str)).loose:=fun h=>vG Bg or ow _ (by rw[KD];omega) (fun e=>by rw[e] at how;cases hm:(gD ps).map V.str with|nil=>rfl|cons a b=>rw[hm] at how;cases how) (fun L=>bF (f:=V.str) (fun _=>trivial) _) h;have hll:(V.sl .leaf ow ((gD ps).map V.str)).loose=lst .leaf ((gD ps).map V.str):=by rw[←how];unfold lst;split<;>rfl
 rw[hll] at C1;have hwt:(ps.getD (ps.length-1) default).v.cell 3= .sl .leaf ow ((gD ps).map V.str):=how;generalize (ps.getD (ps.length-1) default).v=s at hg hwt;have n0:ps.length-1<ps.length:=or;refine aue (e7 trs.eq_1 hz hg hw1 hwt n0 (@KD PS V)) ?_;exact aC h' (leo hd) ⟨rfl,rfl⟩
end Go.Proofs.YtlhedpgobaellaaGreatDoor
