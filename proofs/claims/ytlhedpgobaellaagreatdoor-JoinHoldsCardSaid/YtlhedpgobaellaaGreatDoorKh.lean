/-
Texts of this proof,one behind the other. No conditions.
-/
import Derived.Test.YtlhedpgobaellaaGreatDoorKf
open Go.Proofs.YtlhedpgobaellaaGreatDoor.Hp renaming le_refl→Ka,set→Kb,same→Ke,del→Kf,has→Km,none→Kx
open Go.Proofs.YtlhedpgobaellaaGreatDoor.Ex renaming aAl→Kc,ts→Kd,kids→Kh,aAD→Ki,op→Kk
open List renaming take_succ_eq_append_getElem→Kg,getD_eq_getElem?_getD→Kq,drop_eq_getElem_cons→Ks,take_length→Kt,getElem_mem→Ku,take_of_length_le→Kv,length_append→Ky,findIdx?_eq_some_iff_getElem→Kz,findIdx?_eq_none_iff→KA,getElem?_eq_getElem→KB,getElem_append_right→KD,flatMap_append→KE,mem_take_iff_getElem→KF,getElem_append_left→KG,drop_eq_nil_of_le→KH,filter_append→KI,map_cons→KJ,not_mem_nil→KK,map_nil→KL,length_eq_zero_iff→KM,mem_append→KN,append_nil→KO,take_append_drop→KP,sizeOf_lt_of_mem→KQ,mem_cons→KS,replicate_succ→KT,replicate_zero→KU,filter_eq_self→KV,append_assoc→KZ,length_cons→Qa,cons_append→Qb,map_append→Qc,length_nil→Qd,nil_append→Qe,take_zero→Qf,drop_zero→Qg,replicate→Qh,drop_drop→Qi,all_cons→Ql,length→Qq,drop→Qr
open Nat renaming le_refl→Kj,zero_le→Ko,lt_or_ge→Kp,zero_add→KW,add_zero→KX,sub_zero→KY,reduceAdd→Qj,reduceSub→Qk,add_assoc→Qo,sub_self→Qp
open Go.IntKind renaming wrap→Kw
open Bool renaming eq_iff_iff→KC,true_and→Qm
open Int renaming toNat_zero→KR
open Nat renaming reduceAdd→jA,reduceSub→jB,reduceLT→jC,reduceLeDiff→jD,reduceEqDiff→jE
open Int renaming reduceToNat→jF,toNat_natCast→jG,natCast_add→jH,natCast_one→jI,natCast_zero→jJ
open List renaming length_map→jK,length_cons→jL,length_nil→jM,replicate_succ→jN,replicate_zero→jO,cons_append→jP,nil_append→jQ
set_option linter.all false
set_option maxHeartbeats 8000000
namespace Go.Proofs.YtlhedpgobaellaaGreatDoor
open Go.RowKit Go.Sort
attribute [local irreducible] Kw
theorem Dk(s:ByteArray)(h:Hp):aL Tryz.prog 194 [.str s] h (.fn (.func 239) [] [.ept .leaf [.str s] 0 0]):=by
 show aL Tryz.prog 194 [.str s] h (.fn (.func 239) [] [.ept .leaf [(V.str s).loose] 0 0]);refine aI (fun L=>?_) fun h' nx hh=>d8 (aB L.aWf fun hd=>?_)
 ·simp[V.loose,V.names,bQ]
 refine ZK ?_;refine au ?_;refine aC _ (Ka _) ⟨nx,Kj _,?_,rfl⟩;rfl
noncomputable def xV(s:ByteArray):List (List V):=(iX iH s (cG s 0)).1.map (fun t=>[t.v, .nilIface])++
 (match (iX iH s (cG s 0)).2 with
  |none=>[]
  |some a=>[[Tk.v ⟨0,⟨#[]⟩,a⟩, .iface 93 (.int .i64 2)]])
theorem Dl(s:ByteArray)(hs:s.size≤4000):s9 Tryz.prog 239 [.ept .leaf [.str s] 0 0] Kx (xV s):=by
 intro yn J D hbJ hnJ hnD hJ h0 nx0 h0J hd0;refine aB L.aT6 fun hd=>?_;refine ZK ?_;have C1:=fun h=>g9 s hs 0 (Ko _) h;refine au ?_;obtain⟨T,hT⟩:∃T,iX iH s (cG s 0)=T:=⟨_,rfl⟩;have hV:xV s=T.1.map (fun t=>[t.v, .nilIface])++(match T.2 with
  |none=>[]
  |some a=>[[Tk.v ⟨0,⟨#[]⟩,a⟩, .iface 93 (.int .i64 2)]]):=by rw[←hT];rfl
 refine aP (fun p:Nat×Nat=>aD 36 0 [(0, .yld yn),(1, .ept .leaf [.str s] 0 0),(3, .int .i64 p.2)]) (fun p h nx=>p.2≤s.size∧p.1≤T.1.length∧T.1.drop p.1=(iX iH s p.2).1∧T.2=(iX iH s p.2).2∧J p.1 h nx∧aV h nx) (fun p=>s.size-p.2) (0,cG s 0) ⟨o7 (Ko _),Ko _,by rw[hT];rfl,by rw[hT],hnJ _ _ _ _ h0J (Kj _),hd0.up (Kj _)⟩ (by simp only[WkL,aD,jH,jI,jJ,go_sem,reduceIte,jA,jB,jC,jD,reduceCtorEq,jE,jF]) ?_;rintro⟨i,a⟩ h nx ⟨ha,hi,h1,h2,hj,hdm⟩;simp only at ha hi h1 h2 hj hdm;generalize hQ:bB _ _ _ _ _=Q0;refine Zk ?_;rcases Kp a s.size with hlt|hge
 ·have hc:decide ((a:Int)<(s.size:Int))=true:=dct;have ha':(a:Int)≤(s.size:Int):=or;have C1:=fun h=>Ap (s.extract a s.size) (by rw[eZ];omega) (by rw[eZ];omega) h;obtain⟨k,t,hn⟩:∃k t,fP iH (s.extract a s.size)=(k,t):=⟨_,_,rfl⟩;rw[hn] at C1;simp only[Tk.v] at C1;unfold L.aDD;generalize hRC:aS.seq (aS.seq (aS.ops L.aDC) _) _=RC;refine aue (e5 hc hlt ha' (jG a) (Nat.le_of_lt hlt)) ?_;rw[←hRC];refine bK ?_;by_cases h0:k=0
  ·subst h0;rw[bc hlt (by rw[hn])] at h1 h2;have hlen:T.1.length=i:=by
    have:T.1.length≤i:=by simpa using h1
    omega
   have hy:∀NX,nx≤NX→dF Tryz.prog yn [.agg [.int .i64 0, .str ⟨#[]⟩, .int .i64 a], .iface 93 (.int .i64 2)] h NX fun v h' nx'=>((v= .bool true∧J (i+1) h' nx')∨(v= .bool false∧D h' nx'))∧aV h' nx'∧NX≤nx':=fun NX hNX=>by
    have:=(hJ i (by rw[hV,h2];simp;omega) h NX (hnJ i h nx NX hj hNX) (hdm.up hNX)).dom;have e:(xV s)[i]'(by rw[hV,h2];simp;omega)=[.agg [.int .i64 0, .str ⟨#[]⟩, .int .i64 a], .iface 93 (.int .i64 2)]:=by
     simp only[hV,h2];rw[KD (by simp;omega)];simp[hlen,Tk.v]
    rw[e] at this;exact this
   have hk0:((0:Int)==0)=true:=rfl;refine aue hk0 ?_;refine lU rfl ?_;refine((hy _ Zw).weaken (leo hdm)).mono ?_;rintro v h' nx' hnx ⟨hq,aU2,_⟩;unfold bT;have aAh:J (i+1) h' nx'→J (xV s).length h' nx':=fun q=>by
    have:(xV s).length=i+1:=by rw[hV,h2];simp;omega
    rw[this];exact q
   refine au ?_;rw[←hQ];refine au ?_;exact⟨h',Ka _,hq.imp (fun q=>aAh q.2) (fun q=>q.2)⟩
  have aFG:=qQ hlt hn h0;rw[aFG] at h1 h2;have hik:i<T.1.length:=by
   rcases Kp i T.1.length with q|q
   ·exact q
   rw[List.drop_of_length_le q] at h1;cases h1
  have hTi:T.1[i]=⟨k,t,a⟩:=by
   rw[Ks hik] at h1;injection h1
  have hTd:T.1.drop (i+1)=(iX iH s (cG s (a+t.size))).1:=by
   rw[Ks hik] at h1;injection h1
  have htz:=lN (κ:=iH) (r:=s.extract a s.size) (by rw[hn];exact h0);rw[hn,eZ] at htz;dsimp only at htz;have hsk:=o7 (s:=s) (i:=a+t.size) or;have aY9:=tC s (a+t.size);have hVl:i<(xV s).length:=by rw[hV];simp;omega
  have hy:∀NX,nx≤NX→dF Tryz.prog yn [.agg [.int .i64 k, .str t, .int .i64 a], .nilIface] h NX fun v h' nx'=>((v= .bool true∧J (i+1) h' nx')∨(v= .bool false∧D h' nx'))∧aV h' nx'∧NX≤nx':=fun NX hNX=>by
   have:=(hJ i hVl h NX (hnJ i h nx NX hj hNX) (hdm.up hNX)).dom;have e:(xV s)[i]'hVl=[.agg [.int .i64 k, .str t, .int .i64 a], .nilIface]:=by
    simp only[hV];rw[KG (by simpa using hik)];simp[hTi,Tk.v]
   rw[e] at this;exact this
  have hk0:(k==0)=false:=by simpa using h0
  generalize hRQ:mT (lwp Tryz.prog _) _=RQ;refine aue hk0 ?_;rw[←hRQ];refine dO (lE (t:=4) (n:=nx) (k:= .agg 3) (i:=0) (o:=0) (es:=[.agg [.int .i64 k, .str t, .int .i64 a]]) rfl (by simp only[go_sem,reduceIte,jA,jB,jC,jD,reduceCtorEq,jE,jF])) ?_;refine Zn ?_;have C2:=fun h=>g9 s hs (a+t.size) or h;have hw:IntKind.i64.wrap ((a:Int)+(t.size:Int))=((a+t.size:Nat):Int):=wrp;refine au ?_;refine lU rfl ?_;refine((hy _ Zw).weaken ?_).mono ?_
  ·exact leo hdm
  rintro v h' nx' hnx ⟨hq,aU2,_⟩;unfold bT;rcases hq with⟨rfl,hj'⟩|⟨rfl,hD⟩
  ·refine aue hw ?_;rw[←hQ];exact aG (i+1,cG s (a+t.size)) (by simp only;omega) ⟨hsk,hik,hTd,h2,hnJ _ _ _ _ hj' or,aU2.up or⟩ (by simp only[WkL,aD,jH,jI,jJ,go_sem,reduceIte,jA,jB,jC,jD,reduceCtorEq,jE,jF])
  refine au ?_;rw[←hQ];refine au ?_;exact⟨h',Ka _, .inr hD⟩
 have hc:decide ((a:Int)<(s.size:Int))=false:=dcf;refine aue hc ?_;rw[←hQ];refine au ?_;rw[lX hge] at h1 h2;have hlen:(xV s).length=i:=by
  rw[hV,h2];have:T.1.length≤i:=by simpa using h1
  simp;omega
 exact⟨h,Ka _, .inl (by rw[hlen];exact hj)⟩
theorem vY{t u v:Nat}{k1 k2 k3:Sh}{R:V→Hp→Nat→Prop}{s:St}(o1:(aW.load k1 (.slot t)).ok s.sl s.h)(o2:(aW.load k2 (.slot u)).ok s.sl s.h)(o3:(aW.load k3 (.slot v)).ok s.sl s.h)(h':Hp)(hle:h'.le s.h)
 (hR:R (.tup [(aW.load k1 (.slot t)).out s.sl s.h,(aW.load k2 (.slot u)).out s.sl s.h,(aW.load k3 (.slot v)).out s.sl s.h]) h' s.nx):tM [.cell t k1, .cell u k2, .cell v k3] R .ret s:=by
 have e3:=fun a b=>aW.aAa (R:=fun x=>∃h',h'.le s.h∧R (iC [a,b,x]) h' s.nx) o3;have e2:=fun a=>aW.aAa (R:=fun x=>(aW.load k3 (.slot v)).sem s.sl s.h fun y=>∃h',h'.le s.h∧R (iC [a,x,y]) h' s.nx) o2;have:=aW.aAa (R:=fun x=>(aW.load k2 (.slot u)).sem s.sl s.h fun y=>(aW.load k3 (.slot v)).sem s.sl s.h fun z=>∃h',h'.le s.h∧R (iC [x,y,z]) h' s.nx) o1 (e2 _ (e3 _ _ ⟨h',hle,hR⟩));exact this
theorem Ez{h:Hp}{n0 n:Nat}{o:Own}{es:List V}(a:Acc h n0 o es)(hn:n<n0){b:Blk}:Acc (h.set n b) n0 o es:=by
 rcases a with a|⟨h1,id,h2,h3,h4⟩
 ·exact .inl a
 exact .inr ⟨h1,id,h2,h3,by simp only[Kb];rw[if_neg or];exact h4⟩
def rgF(nx1 a:Nat):List (Nat×Nat×V):=[(0,18, .ptr nx1 (.agg 3) 0 2),(1,19, .int .i64 a),(2,20, .iface 93 (.int .i64 2))]
def rgX(nx nx1:Nat):List (Nat×V):=[(2, .ptr nx .leaf 0 0),(3, .ptr (nx+1) .leaf 0 0),(4, .ptr (nx+2) .leaf 0 0),(6, .ptr nx1 (.agg 3) 0 0),(7, .iface 93 (.int .i64 2))]
def frO{α:Type}(l:List α):Own:=if l.isEmpty=true then .nil else .free
noncomputable def rI(s:ByteArray):V:=
 if 4000<s.size then .tup [.sl (.agg 3) .nil [], .int .i64 4000, .iface 93 (.int .i64 3)]
 else match (iX iH s (cG s 0)).2 with
  |none=> .tup [.sl (.agg 3) (frO (iX iH s (cG s 0)).1) ((iX iH s (cG s 0)).1.map Tk.v), .int .i64 0, .nilIface]
  |some a=> .tup [.sl (.agg 3) .nil [], .int .i64 a, .iface 93 (.int .i64 2)]
theorem qg(s:ByteArray)(L:Nat→Prop):(rI s).names L:=by
 unfold rI;split
 ·simp[V.names,bQ]
 split
 ·refine⟨⟨?_,cK (fun x=>Tk.aAN L x) _⟩,trivial,trivial,trivial⟩;intro n e;unfold frO at e;split at e<;>cases e
 simp[V.names,bQ]
theorem yz{κ:ByteArray→Int}{s:ByteArray}:∀(n i:Nat),s.size-i≤n→(iX κ s i).1.length≤s.size-i
 |0,i,h=>by rw[lX or];simp
 |n+1,i,h=>by
  rcases Kp i s.size with hi|hi
  ·obtain⟨k,t,hn⟩:∃k t,fP κ (s.extract i s.size)=(k,t):=⟨_,_,rfl⟩;by_cases h0:k=0
   ·rw[bc hi (by rw[hn];exact h0)];simp
   have hz:=lN (κ:=κ) (r:=s.extract i s.size) (by rw[hn];exact h0);rw[hn] at hz;dsimp only at hz;rw[qQ hi hn h0];have:=tC s (i+t.size);have:=yz (κ:=κ) (s:=s) n (cG s (i+t.size)) or;simp only[jL];omega
  rw[lX hi];simp
theorem wD(s:ByteArray)(h:Hp):aL Tryz.prog 130 [.str s] h (rI s):=by
 refine lL (qg s) fun h' nx hh=>aB L.aXR fun hd=>?_;refine ZK ?_;by_cases hs:4000<s.size
 ·have g1:decide ((4000:Int)<(s.size:Int))=true:=dct;refine aue g1 ?_;refine vY (by simp only[go_sem,reduceIte,jA,jB,jC,jD,reduceCtorEq,jE,jF]) (by simp only[go_sem,reduceIte,jA,jB,jC,jD,reduceCtorEq,jE,jF]) (by simp only[go_sem,reduceIte,jA,jB,jC,jD,reduceCtorEq,jE,jF]) _ (Ka _) ⟨?_,leo hd⟩;simp only[V.aAs,V.loose,go_sem,reduceIte,jA,jB,jC,jD,reduceCtorEq,jE,jF];unfold rI;rw[if_pos hs]
 have g1:decide ((4000:Int)<(s.size:Int))=false:=dcf;have hit:=Dl s or;have C1:=fun h=>Dk s h;refine aue g1 ?_;obtain⟨T,hT⟩:∃T,iX iH s (cG s 0)=T:=⟨_,rfl⟩;have hTl:T.1.length≤4000:=by
  have:=yz (κ:=iH) (s:=s) _ (cG s 0) (Kj _);rw[hT] at this;omega
 have hV:xV s=T.1.map (fun t=>[t.v, .nilIface])++(match T.2 with
  |none=>[]
  |some a=>[[Tk.v ⟨0,⟨#[]⟩,a⟩, .iface 93 (.int .i64 2)]]):=by rw[←hT];rfl
 have hLV:rI s=match T.2 with
  |none=> .tup [.sl (.agg 3) (frO T.1) (T.1.map Tk.v), .int .i64 0, .nilIface]
  |some a=> .tup [.sl (.agg 3) .nil [], .int .i64 a, .iface 93 (.int .i64 2)]:=by unfold rI;rw[if_neg hs,hT]
 rw[hLV];have aAc:∀n,nx≤n→h' n=none:=fun n hn=>aV.none hd hn;obtain⟨I,hI⟩:∃I:Nat→Hp→Nat→Prop,∀i h nx1,I i h nx1↔(i≤T.1.length∧h'.le h∧h nx=some (.arr .leaf [.sl (.agg 3) .nil []])∧h (nx+1)=some (.arr .leaf [.int .i64 0])∧h (nx+2)=some (.arr .leaf [.nilIface])∧∃o,h (nx+3)=some (.arr .leaf [.sl (.agg 3) o ((T.1.take i).map Tk.v)])∧Acc h (nx+5) o ((T.1.take i).map Tk.v)):=⟨_,fun _ _ _=>Iff.rfl⟩;obtain⟨E,hE⟩:∃E:bJ→Hp→Nat→Prop,∀e h nx1,E e h nx1↔(e= .ret∧h'.le h∧∃a,T.2=some a∧h nx=some (.arr .leaf [.sl (.agg 3) .nil []])∧h (nx+1)=some (.arr .leaf [.int .i64 a])∧h (nx+2)=some (.arr .leaf [.iface 93 (.int .i64 2)])):=⟨_,fun _ _ _=>Iff.rfl⟩;have h0:∀k,(nx+k=nx+4)=(k=4):=fun k=>by rw[eq_iff_iff];omega
 refine lR hit rfl (fun x hx=>?_) (by exact dmo hd) I E ?_ ?_ ?_ ?_ ?_ ?_ ?_ ?_ ?_
 ·rw[hV] at hx;rcases KN.1 hx with q|q
  ·obtain⟨_,_,rfl⟩:=List.mem_map.1 q;rfl
  split at q
  ·cases q
  obtain rfl:x=_:=by simpa using q
  rfl
 ·exact fun i h nx1 hi=>bA h
 ·exact fun i h n1 n2 hi _=>(hI _ _ _).2 ((hI _ _ _).1 hi)
 ·intro i h n1 b hi;obtain⟨q0,q1,q2,q3,q4,o,q5,q6⟩:=(hI _ _ _).1 hi;refine(hI _ _ _).2 ⟨q0,gH q1 (aAc _ Zm) b,?_,?_,?_,o,?_,?_⟩
  all_goals first
   |exact Ez q6 Zm
   |(simp only[Kb];rw[if_neg or];assumption)
 ·exact fun e h n1 n2 hi _=>(hE _ _ _).2 ((hE _ _ _).1 hi)
 ·intro e h n1 b hi;obtain⟨q0,q1,a,q2,q3,q4,q5⟩:=(hE _ _ _).1 hi;refine(hE _ _ _).2 ⟨q0,gH q1 (aAc _ Zm) b,a,q2,?_,?_,?_⟩;all_goals (simp only[Kb];rw[if_neg or];assumption)
 ·refine(hI _ _ _).2 ⟨Ko _,leo hd,by simp only[go_sem,reduceIte,jA,jB,jC,jD,reduceCtorEq,jE,jF],by simp only[go_sem,reduceIte,jA,jB,jC,jD,reduceCtorEq,jE,jF],by simp only[go_sem,reduceIte,jA,jB,jC,jD,reduceCtorEq,jE,jF], .nil,by simp only[Qf,KL,go_sem,reduceIte,jA,jB,jC,jD,reduceCtorEq,jE,jF], .inl ⟨Zm,rfl⟩⟩
 ·intro i hi h nx1 X hii hnx hX hdm;obtain⟨q0,q1,q2,q3,q4,o,q5,aAr⟩:=(hI _ _ _).1 hii;simp only at hnx hX;have aCA:nx+4<nx1:=hnx;by_cases hik:i<T.1.length
  ·have e:(xV s)[i]=[T.1[i].v, .nilIface]:=by
    simp only[hV];rw[KG (by simpa using hik)];simp
   rw[e];simp only[aAQ,go_sem,reduceIte,jA,jB,jC,jD,reduceCtorEq,jE,jF];have hlen:((T.1.take i).map Tk.v).length=i:=by simp;omega
   have aWM:(i+1)*32≤140737488355328:=or;have hft:=Tk.aAD T.1[i];have l0:nx<nx1:=or;have l1:nx+1<nx1:=or;have l2:nx+2<nx1:=or;have l3:nx+3<nx1:=or;generalize hRR:Di (nx+4) X _=RR;refine aue (e8 q2 q3 q4 q5 aCA hlen hX hft) ?_;rw[←hRR];refine kH ?_ fun X'=>?_
   ·simp only[hX,aCA,go_sem,reduceIte,jA,jB,jC,jD,reduceCtorEq,jE,jF]
   generalize hH:Kb (Kb _ nx1 _) (nx+4) X'=H;have hH0:H nx=some (.arr .leaf [.sl (.agg 3) .nil []]):=by rw[←hH];simp only[q2,l0,go_sem,reduceIte,jA,jB,jC,jD,reduceCtorEq,jE,jF]
   have hH1:H (nx+1)=some (.arr .leaf [.int .i64 0]):=by rw[←hH];simp only[q3,l1,go_sem,reduceIte,jA,jB,jC,jD,reduceCtorEq,jE,jF]
   have hH2:H (nx+2)=some (.arr .leaf [.nilIface]):=by rw[←hH];simp only[q4,l2,go_sem,reduceIte,jA,jB,jC,jD,reduceCtorEq,jE,jF]
   have hH3:H (nx+3)=some (.arr .leaf [.sl (.agg 3) o ((T.1.take i).map Tk.v)]):=by rw[←hH];simp only[q5,l3,go_sem,reduceIte,jA,jB,jC,jD,reduceCtorEq,jE,jF]
   have hH4:H (nx+4)=some X':=by rw[←hH];simp only[go_sem,reduceIte,jA,jB,jC,jD,reduceCtorEq,jE,jF]
   have hH5:H nx1=some (.arr (.agg 3) [T.1[i].v]):=by rw[←hH];simp only[aCA,go_sem,reduceIte,jA,jB,jC,jD,reduceCtorEq,jE,jF]
   have hdH:aV H (nx1+2):=by rw[←hH];exact dmo hdm
   have aOO:h'.le H:=by rw[←hH];exact lef hd q1
   have aAh:∀(H2:Hp) (id nx2:Nat) (sl:List V),H2 nx=some (.arr .leaf [.sl (.agg 3) .nil []])→H2 (nx+1)=some (.arr .leaf [.int .i64 0])→H2 (nx+2)=some (.arr .leaf [.nilIface])→H2 (nx+3)=some (.arr .leaf [.sl (.agg 3) (.tok id) ((T.1.take i).map Tk.v++[T.1[i].v])])→H2 (nx+4)=some X'→H2 id=some .tip→nx+5≤id→h'.le H2→lK (nx+4) X' (I (i+1)) E .normal ⟨sl,H2,nx2⟩:=by
    intro H2 id nx2 sl p0 p1 p2 p3 p4 p5 p6 p7;have htk:(T.1.take (i+1)).map Tk.v=(T.1.take i).map Tk.v++[T.1[i].v]:=by
     rw[Kg hik,Qc];rfl
    exact fD p4 ((hI _ _ _).2 ⟨hik,p7,p0,p1,p2,_,by rw[htk];exact p3,by rw[htk];exact .inr ⟨Zm,id,p6,rfl,p5⟩⟩)
   generalize aVA:lK (nx+4) X' _ _=RR at aAh⊢;rcases aAr with⟨he,rfl⟩|⟨hne,id,hid,rfl,aUp⟩
   ·rw[he] at hH3 aAh;refine aue (e8 hH0 hH1 hH2 hH3 hH4 hH5 hft (e5 l0 l1 l2 l3 aCA)) ?_;refine aAh _ (nx1+3) _ _ ?_ ?_ ?_ ?_ ?_ ?_ or (lef hd aOO);all_goals simp only[hH0,hH1,hH2,hH3,hH4,l0,l1,l2,l3,aCA,jQ,go_sem,reduceIte,jA,jB,jC,jD,reduceCtorEq,jE,jF]
   have aO0:id<nx1:=hdm _ _ aUp;have hHt:H id=some .tip:=by rw[←hH];simp only[aUp,aO0,show(id=nx+4)=False from fls,go_sem,reduceIte,jA,jB,jC,jD,reduceCtorEq,jE,jF]
   have m3:nx+3<id:=or;have m4:nx+4<id:=or;have m0:nx<id:=or;have m1:nx+1<id:=or;have m2:nx+2<id:=or;refine aue (e8 hH0 hH1 hH2 hH3 hH4 hH5 hft (e13 l0 l1 l2 l3 aCA hHt aO0 m3 m4 m0 m1 m2 (e2 hlen aWM))) ?_;refine aAh _ (nx1+3) _ _ ?_ ?_ ?_ ?_ ?_ ?_ or (lef hd aOO);all_goals simp only[hH0,hH1,hH2,hH3,hH4,l0,l1,l2,l3,aCA,m0,m1,m2,m3,m4,aO0,go_sem,reduceIte,jA,jB,jC,jD,reduceCtorEq,jE,jF]
  have aWF:i=T.1.length:=by rw[hV] at hi;simp at hi;cases hT2:T.2<;>simp[hT2] at hi<;>omega
  obtain⟨a,hT2⟩:∃a,T.2=some a:=by
   cases hT2:T.2 with
   |none=>rw[hV,hT2] at hi;simp at hi;omega
   |some a=>exact⟨a,rfl⟩
  have e:(xV s)[i]=[Tk.v ⟨0,⟨#[]⟩,a⟩, .iface 93 (.int .i64 2)]:=by
   simp only[hV,hT2];rw[KD (by simp;omega)];simp[aWF]
  rw[e];simp only[aAQ,Tk.v,go_sem,reduceIte,jA,jB,jC,jD,reduceCtorEq,jE,jF];have l0:nx<nx1:=or;have l1:nx+1<nx1:=or;have l2:nx+2<nx1:=or;have l3:nx+3<nx1:=or;generalize hRR:Di (nx+4) X _=RR;refine aue (e7 q2 q3 q4 q5 aCA hX l0) ?_;rw[←hRR];refine kH ?_ fun X'=>?_
  ·simp only[hX,aCA,go_sem,reduceIte,jA,jB,jC,jD,reduceCtorEq,jE,jF]
  generalize hH:Kb (Kb _ nx1 _) (nx+4) X'=H;have hH0:H nx=some (.arr .leaf [.sl (.agg 3) .nil []]):=by rw[←hH];simp only[q2,l0,go_sem,reduceIte,jA,jB,jC,jD,reduceCtorEq,jE,jF]
  have hH1:H (nx+1)=some (.arr .leaf [.int .i64 0]):=by rw[←hH];simp only[q3,l1,go_sem,reduceIte,jA,jB,jC,jD,reduceCtorEq,jE,jF]
  have hH2:H (nx+2)=some (.arr .leaf [.nilIface]):=by rw[←hH];simp only[q4,l2,go_sem,reduceIte,jA,jB,jC,jD,reduceCtorEq,jE,jF]
  have hH4:H (nx+4)=some X':=by rw[←hH];simp only[go_sem,reduceIte,jA,jB,jC,jD,reduceCtorEq,jE,jF]
  have hH5:H nx1=some (.arr (.agg 3) [.agg [.int .i64 0, .str ⟨#[]⟩, .int .i64 a]]):=by rw[←hH];simp only[aCA,go_sem,reduceIte,jA,jB,jC,jD,reduceCtorEq,jE,jF]
  have aOO:h'.le H:=by rw[←hH];exact lef hd q1
  generalize aVA:lK (nx+4) X' _ _=RR;refine aue (e8 hH0 hH1 hH2 hH4 hH5 l0 l1 l2) ?_;refine qM ?_;refine⟨fun D s'=>RG (rgF nx1 a) (rgX nx nx1) 26 D s'.sl∧(∀n,n≠nx+1→n≠nx+2→s'.h n=H n)∧s'.h (nx+1)=some (.arr .leaf [if D 4=true then .int .i64 a else .int .i64 0])∧s'.h (nx+2)=some (.arr .leaf [if D 5=true then .iface 93 (.int .i64 2) else .nilIface]),⟨⟨rfl,?_,fun f _ e=>by cases e⟩,fun _ _ _=>rfl,hH1,hH2⟩,?_,?_⟩
  ·intro p hp;simp only[rgX,KS,KK,or_false] at hp;rcases hp with rfl|rfl|rfl|rfl|rfl<;>rfl
  ·rintro D k oo aAF ⟨sl,hq,n2⟩ hk hDk aAv hcl ⟨rs,r0,r1,r2⟩;dsimp only at rs r0 r1 r2;have x2:=rs.fx (2, .ptr nx .leaf 0 0) (by simp[rgX]);have x3:=rs.fx (3, .ptr (nx+1) .leaf 0 0) (by simp[rgX]);have x4:=rs.fx (4, .ptr (nx+2) .leaf 0 0) (by simp[rgX]);have x6:=rs.fx (6, .ptr nx1 (.agg 3) 0 0) (by simp[rgX]);have x7:=rs.fx (7, .iface 93 (.int .i64 2)) (by simp[rgX]);have y:∀f∈rgF nx1 a,f.1∈aAF→sl.getD f.2.1 V.undef=f.2.2:=fun f hf hd=>rs.dn f hf (aAv _ hd);have g0:hq nx=some (.arr .leaf [.sl (.agg 3) .nil []]):=by rw[r0 nx or or];exact hH0
   have g5:hq nx1=some (.arr (.agg 3) [.agg [.int .i64 0, .str ⟨#[]⟩, .int .i64 a]]):=by rw[r0 nx1 or or];exact hH5
   dsimp only at x2 x3 x4 x6 x7;rcases k with _|_|_|_|_|_|k;all_goals first|(injection hk with hk;injection hk with p1 p2;subst p1;subst p2)|skip
   all_goals simp only[rgF,KS,KK,or_false,forall_eq_or_imp,forall_eq,jE,reduceCtorEq,false_implies,implies_true,true_or,or_true,true_implies,and_true,true_and] at y
   all_goals simp only[aZ,LOp.run,LOp.sem,aW.sem,aK.ev,bI,x2,x3,x4,x6,x7,y,g0,g5]
   ·exact⟨rs.slot 0 18 _ ZM (by simp[rgF]) (by simp[rgX]),r0,r1,r2⟩
   ·exact⟨trivial,Zm,by simp[cB],rs.slot 1 19 (.int .i64 a) ZM (by simp[rgF]) (by simp[rgX]),r0,r1,r2⟩
   ·exact⟨rs.slot 2 20 _ ZM (by simp[rgF]) (by simp[rgX]),r0,r1,r2⟩
   ·refine⟨trivial,Zm,rfl,rfl,rs.none 3 (by simp[rgF]),fun n q1 q2=>?_,?_,?_⟩
    ·simp only[Kb];split
     ·rename_i e;subst e;rw[hH0];rfl
     exact r0 n q1 q2
    ·simp only[Kb];rw[if_neg or];exact r1
    simp only[Kb];rw[if_neg or];exact r2
   ·rw[r1];refine⟨rfl,Zm,rfl,rfl,rs.none 4 (by simp[rgF]),fun n q1 q2=>?_,?_,?_⟩
    ·simp only[Kb];rw[if_neg q1];exact r0 n q1 q2
    ·rw[show D 4=false from hDk];simp only[Kb,if_true];rfl
    simp only[Kb];rw[if_neg or];exact r2
   ·rw[r2];refine⟨rfl,Zm,rfl,rfl,rs.none 5 (by simp[rgF]),fun n q1 q2=>?_,?_,?_⟩
    ·simp only[Kb];rw[if_neg q2];exact r0 n q1 q2
    ·simp only[Kb];rw[if_neg or];exact r1
    rw[show D 5=false from hDk];simp only[Kb,if_true];rfl
   simp[L.aCT] at hk
  rintro D ⟨sl,H9,n9⟩ hD ⟨rs,r0,r1,r2⟩;dsimp only at rs r0 r1 r2;rw[if_pos (hD 4 (by simp[L.aCT]))] at r1;rw[if_pos (hD 5 (by simp[L.aCT]))] at r2;unfold L.aC9;refine au ?_;rw[←aVA];refine uo (by dsimp only;rw[r0 _ or or];exact hH4) ((hE _ _ _).2 ⟨rfl,fun n b hb=>?_,a,hT2,?_,r1,r2⟩)
  ·have hn:n<nx:=hd n b hb;dsimp only;rw[r0 n or or];exact aOO n b hb
  dsimp only;rw[r0 _ or or];exact hH0
 ·intro h nx1 hii hnx hdm;obtain⟨q0,q1,q2,q3,q4,o,q5,aAr⟩:=(hI _ _ _).1 hii;simp only at hnx;have hT2:T.2=none:=by
   cases hT2:T.2 with
   |none=>rfl
   |some a=>exfalso;rw[hV,hT2] at q0;simp at q0;omega
  have hlx:(xV s).length=T.1.length:=by rw[hV,hT2];simp
  rw[hlx,Kt] at q5 aAr;refine aue (e4 q2 q3 q4 q5) ?_;refine vY (by simp only[q2,q3,q4,q5,go_sem,reduceIte,jA,jB,jC,jD,reduceCtorEq,jE,jF]) (by simp only[q2,q3,q4,q5,go_sem,reduceIte,jA,jB,jC,jD,reduceCtorEq,jE,jF]) (by simp only[q2,q3,q4,q5,go_sem,reduceIte,jA,jB,jC,jD,reduceCtorEq,jE,jF]) _ (Ka _) ⟨?_,?_⟩
  ·simp only[hT2,q2,q3,q4,q5,V.aAs,KJ,KL,aAr.loose,frO,List.isEmpty_map,go_sem,reduceIte,jA,jB,jC,jD,reduceCtorEq,jE,jF];cases T.1<;>rfl
  exact lef hd (kK q1 (aAc (nx+4) or))
 intro e h nx1 hee hnx hdm hc;obtain⟨rfl,q1,a,q2,q3,q4,q5⟩:=(hE _ _ _).1 hee;simp only at hnx;refine au ?_;refine vY (by simp only[q3,q4,q5,go_sem,reduceIte,jA,jB,jC,jD,reduceCtorEq,jE,jF]) (by simp only[q3,q4,q5,go_sem,reduceIte,jA,jB,jC,jD,reduceCtorEq,jE,jF]) (by simp only[q3,q4,q5,go_sem,reduceIte,jA,jB,jC,jD,reduceCtorEq,jE,jF]) _ (Ka _) ⟨?_,?_⟩
 ·simp only[q2,q3,q4,q5,V.aAs,V.loose,go_sem,reduceIte,jA,jB,jC,jD,reduceCtorEq,jE,jF]
 exact kK q1 (aAc _ Zm)
end Go.Proofs.YtlhedpgobaellaaGreatDoor
namespace Go.Proofs.YtlhedpgobaellaaGreatDoor
open Go.RowKit Go.Sort
attribute [local irreducible] Kw
instance:DecidableEq Tk:=fun a b=>decidable_of_iff (a.k=b.k∧a.t=b.t∧a.a=b.a) ⟨fun⟨h1,h2,h3⟩=>by cases a;cases b;simp only at h1 h2 h3;rw[h1,h2,h3],fun h=>by rw[h];exact⟨rfl,rfl,rfl⟩⟩
noncomputable def AL(k:Int)(s:ByteArray):Bool:=decide (s.size≤4000∧iX iH s (cG s 0)=([⟨k,s,0⟩],none))
theorem Ct(s:ByteArray):AL 3 s=zp s:=by
 rw[KC];unfold AL;rw[decide_eq_true_eq,DH yf];exact⟨fun h=>h.2,fun h=>⟨by have:=(of_decide_eq_true h).2.1;omega,h⟩⟩
theorem Cu(s:ByteArray):AL 2 s=BJ s:=by
 rw[KC];unfold AL;rw[decide_eq_true_eq,DI yf];exact⟨fun h=>h.2,fun h=>⟨by have:=(of_decide_eq_true (of_decide_eq_true h).1).2.1;omega,h⟩⟩
theorem EF{k:Int}{s:ByteArray}{t:Tk}:veq (.plain (.agg 3) [.int, .str, .int]) t.v (.agg [.int .i64 k, .str s, .int .i64 0])=some (decide (t=⟨k,s,0⟩)):=by
 obtain⟨k',s',a⟩:=t;have e:veq (.plain (.agg 3) [.int, .str, .int]) (Tk.v ⟨k',s',a⟩) (.agg [.int .i64 k, .str s, .int .i64 0])=some ((k'==k)&&((s'.toList==s.toList)&&((a:Int)==0))):=rfl;rw[e,dS];congr 1;rw[KC];simp
theorem eu(s:ByteArray)(h:Hp):aL Tryz.prog 225 [.str s] h (.bool (zp s)):=by
 refine aI (fun L=>trivial) fun h' nx hh=>aB L.aNp fun hd=>?_;simp only[Qa,Qd,Qj,Qk,KT,KU,Qb,Qe,V.undef];rw[←Ct];have C0:=fun h=>wD s h;unfold rI at C0;unfold AL;by_cases h1:4000<s.size
 ·rw[if_pos h1] at C0;have C1:=C0;refine au ?_;refine aC h' (leo hd) ⟨?_,rfl⟩;first|rfl|(rw[decide_eq_false or];rfl)
 rw[if_neg h1] at C0;obtain⟨T,hT⟩:∃T,iX iH s (cG s 0)=T:=⟨_,rfl⟩;rw[hT] at C0⊢;obtain⟨l,b⟩:=T;have h2:s.size≤4000:=or;cases b with
 |some a=>
  have C1:∀h,aL Tryz.prog 130 [.str s] h (.tup [.sl (.agg 3) .nil [], .int .i64 a, .iface 93 (.int .i64 2)]):=C0;refine au ?_;refine aC h' (leo hd) ⟨?_,rfl⟩;first|rfl|(rw[decide_eq_false Zm];rfl)
 |none=>
  match l with
  | []=>
   have C1:∀h,aL Tryz.prog 130 [.str s] h (.tup [.sl (.agg 3) .nil [], .int .i64 0, .nilIface]):=C0;have hk:(((0:Nat):Int)==1)=false:=rfl;refine aue hk ?_;refine aC h' (leo hd) ⟨?_,rfl⟩;first|rfl|(rw[decide_eq_false Zm];rfl)
  | [t]=>
   have C1:∀h,aL Tryz.prog 130 [.str s] h (.tup [.sl (.agg 3) .free [t.v], .int .i64 0, .nilIface]):=C0;have hv:=EF (k:=3) (s:=s) (t:=t);have hk:(((1:Nat):Int)==1)=true:=rfl;have hk':(((0+1:Nat):Int)==1)=true:=rfl;refine aue (e4 hv (Tk.aAD t) hk hk') ?_;refine aC h' (leo hd) ⟨vb ?_,rfl⟩;simp[h2]
  |t::u::r=>
   have C1:∀h,aL Tryz.prog 130 [.str s] h (.tup [.sl (.agg 3) .free (t.v::u.v::r.map Tk.v), .int .i64 0, .nilIface]):=C0;obtain⟨q,hq⟩:∃q,r.map Tk.v=q:=⟨_,rfl⟩;rw[hq] at C1;have hk:(((q.length+1+1:Nat):Int)==1)=false:=bqf;have hk':((q.length:Int)+1+1==1)=false:=bqf;refine aue (e2 hk hk') ?_;refine aC h' (leo hd) ⟨?_,rfl⟩;first|rfl|(rw[decide_eq_false Zm];rfl)
theorem uw(s:ByteArray)(h:Hp):aL Tryz.prog 177 [.str s] h (.bool (BJ s)):=by
 refine aI (fun L=>trivial) fun h' nx hh=>aB L.aW0 fun hd=>?_;simp only[Qa,Qd,Qj,Qk,KT,KU,Qb,Qe,V.undef];rw[←Cu];have C0:=fun h=>wD s h;unfold rI at C0;unfold AL;by_cases h1:4000<s.size
 ·rw[if_pos h1] at C0;have C1:=C0;refine au ?_;refine aC h' (leo hd) ⟨?_,rfl⟩;first|rfl|(rw[decide_eq_false or];rfl)
 rw[if_neg h1] at C0;obtain⟨T,hT⟩:∃T,iX iH s (cG s 0)=T:=⟨_,rfl⟩;rw[hT] at C0⊢;obtain⟨l,b⟩:=T;have h2:s.size≤4000:=or;cases b with
 |some a=>
  have C1:∀h,aL Tryz.prog 130 [.str s] h (.tup [.sl (.agg 3) .nil [], .int .i64 a, .iface 93 (.int .i64 2)]):=C0;refine au ?_;refine aC h' (leo hd) ⟨?_,rfl⟩;first|rfl|(rw[decide_eq_false Zm];rfl)
 |none=>
  match l with
  | []=>
   have C1:∀h,aL Tryz.prog 130 [.str s] h (.tup [.sl (.agg 3) .nil [], .int .i64 0, .nilIface]):=C0;have hk:(((0:Nat):Int)==1)=false:=rfl;refine aue hk ?_;refine aC h' (leo hd) ⟨?_,rfl⟩;first|rfl|(rw[decide_eq_false Zm];rfl)
  | [t]=>
   have C1:∀h,aL Tryz.prog 130 [.str s] h (.tup [.sl (.agg 3) .free [t.v], .int .i64 0, .nilIface]):=C0;have hv:=EF (k:=2) (s:=s) (t:=t);have hk:(((1:Nat):Int)==1)=true:=rfl;have hk':(((0+1:Nat):Int)==1)=true:=rfl;refine aue (e4 hv (Tk.aAD t) hk hk') ?_;refine aC h' (leo hd) ⟨vb ?_,rfl⟩;simp[h2]
  |t::u::r=>
   have C1:∀h,aL Tryz.prog 130 [.str s] h (.tup [.sl (.agg 3) .free (t.v::u.v::r.map Tk.v), .int .i64 0, .nilIface]):=C0;obtain⟨q,hq⟩:∃q,r.map Tk.v=q:=⟨_,rfl⟩;rw[hq] at C1;have hk:(((q.length+1+1:Nat):Int)==1)=false:=bqf;have hk':((q.length:Int)+1+1==1)=false:=bqf;refine aue (e2 hk hk') ?_;refine aC h' (leo hd) ⟨?_,rfl⟩;first|rfl|(rw[decide_eq_false Zm];rfl)
end Go.Proofs.YtlhedpgobaellaaGreatDoor
namespace Go.Proofs.YtlhedpgobaellaaGreatDoor
open Go.RowKit Go.Sort
attribute [local irreducible] Kw
theorem vS(s:ByteArray):(s.toList==(⟨#[]⟩:ByteArray).toList)=decide (s.size=0):=by
 rw[dS];congr 1;rw[eq_iff_iff];exact⟨fun e=>by rw[e];rfl,fun e=>by cases hs:s with|mk d=>rw[hs] at e;simp only[ByteArray.size] at e;rw[Array.eq_empty_of_size_eq_zero e]⟩
theorem zm(w:Vl):veq (.plain (.agg 3) [.int, .int, .str]) (.agg [.int .i64 w.k, .int .i64 w.n, .str w.s]) (.agg [.int .i64 0, .int .i64 0, .str ⟨#[]⟩])=some (td w):=by
 have e:veq (.plain (.agg 3) [.int, .int, .str]) (.agg [.int .i64 w.k, .int .i64 w.n, .str w.s]) (.agg [.int .i64 0, .int .i64 0, .str ⟨#[]⟩])=some ((w.k==0)&&((w.n==0)&&(w.s.toList==(⟨#[]⟩:ByteArray).toList))):=rfl;rw[e,vS];congr 1;rw[KC];unfold td;simp
theorem vR(t:Tr):veq (.plain (.agg 4) [.str, .int, .int, .str]) (.agg [.str t.x, .int .i64 t.w.k, .int .i64 t.w.n, .str t.w.s]) (.agg [.str ⟨#[]⟩, .int .i64 0, .int .i64 0, .str ⟨#[]⟩])=some (rP t):=by
 have e:veq (.plain (.agg 4) [.str, .int, .int, .str]) (.agg [.str t.x, .int .i64 t.w.k, .int .i64 t.w.n, .str t.w.s]) (.agg [.str ⟨#[]⟩, .int .i64 0, .int .i64 0, .str ⟨#[]⟩])=some ((t.x.toList==(⟨#[]⟩:ByteArray).toList)&&((t.w.k==0)&&((t.w.n==0)&&(t.w.s.toList==(⟨#[]⟩:ByteArray).toList)))):=rfl;rw[e,vS,vS];congr 1;rw[KC];unfold rP;simp
theorem oX(t:Tr)(h:Hp):aL Tryz.prog 179 [t.v] h (.bool (iQ t)):=by
 refine aI (fun L=>trivial) fun h' nx hh=>aB L.aVD fun hd=>?_;refine ZK ?_;have C1:∀h,aL Tryz.prog 94 [.agg [.int .i64 t.w.k, .int .i64 t.w.n, .str t.w.s]] h (.bool (bO t.w)):=fun h=>gS t.w h;have C2:=fun h=>eu t.x h;have hz:=zm t.w;have h0:=vS t.x;unfold iQ;by_cases h1:t.x.size=0
 ·have g1:decide (t.x.size=0)=true:=dct;refine aue (e3 Tr.v.eq_1 h0 g1) ?_;refine aC h' (leo hd) ⟨?_,rfl⟩;rw[if_pos h1];rfl
 have g1:decide (t.x.size=0)=false:=dcf;rw[if_neg h1];cases h2:zp t.x with
 |true=>
  rw[h2] at C2;refine aue (e4 Tr.v.eq_1 h0 g1 hz) ?_;refine aC h' (leo hd) ⟨?_,rfl⟩;rfl
 |false=>
  rw[h2] at C2;refine aue (e4 Tr.v.eq_1 h0 g1 hz) ?_;refine aC h' (leo hd) ⟨?_,rfl⟩;rfl
theorem iv(e:Ex)(h:Hp):aL Tryz.prog 141 [e.v] h (.bool (wU e)):=by
 refine aI (fun L=>trivial) fun h' nx hh=>aB L.aW3 fun hd=>?_;obtain⟨op,t,o,ks⟩:=e;rw[Kc];refine ZK ?_;have hz:=vR t;unfold wU;by_cases h1:op=0
 ·have g1:(op==0)=true:=bqt;cases h2:rP t with
  |true=>
   rw[h2] at hz;cases ks with
   |nil=>
    have hk:(((0:Nat):Int)==0)=true:=rfl;refine aue (e8 Ex.cs.eq_1 Ex.op.eq_1 Ex.t.eq_1 Ex.o.eq_1 Ex.kids.eq_1 g1 hz hk) ?_;refine aC h' (leo hd) ⟨?_,rfl⟩;simp[h1,h2,Kk,Kh,Ex.t]
   |cons a r=>
    obtain⟨q,hq⟩:∃q,r.map Ex.v=q:=⟨_,rfl⟩;have hm:(a::r).map Ex.v=a.v::q:=by rw[←hq];rfl
    have hk:(((q.length+1:Nat):Int)==0)=false:=bqf;have hk':((q.length:Int)+1==0)=false:=bqf;refine aue (e10 Ex.cs.eq_1 Ex.op.eq_1 Ex.t.eq_1 Ex.o.eq_1 Ex.kids.eq_1 g1 hz hk hk' hm) ?_;refine aC h' (leo hd) ⟨?_,rfl⟩;simp[h1,h2,Kk,Kh,Ex.t]
  |false=>
   rw[h2] at hz;refine aue (e7 Ex.cs.eq_1 Ex.op.eq_1 Ex.t.eq_1 Ex.o.eq_1 Ex.kids.eq_1 g1 hz) ?_;refine aC h' (leo hd) ⟨?_,rfl⟩;simp[h1,h2,Kk,Kh,Ex.t]
 have g1:(op==0)=false:=bqf;refine aue (e6 Ex.cs.eq_1 Ex.op.eq_1 Ex.t.eq_1 Ex.o.eq_1 Ex.kids.eq_1 g1) ?_;refine aC h' (leo hd) ⟨?_,rfl⟩;simp[h1,Kk,Kh,Ex.t]
theorem kl0(l:List Ex):((l.length:Int)==0)=decide (l=[]):=by cases l<;>simp<;>omega
theorem kl2(l:List Ex):((l.length:Int) != 2)=decide (l.length≠2):=by
 rw[KC];simp;omega
theorem vi{a b:Int}(h:a=b):V.int .i64 a=V.int .i64 b:=by rw[h]
theorem wo(n:Nat)(op:Int)(t:Tr)(o:Own)(ks:List Ex)(h:ks.length≠2):eM (n+1) (.mk op t o ks)=if op=0∧ks=[]∧iQ t=true then 0 else-1:=by
 unfold eM;match ks,h with
 | [],_=>rfl
 | [a],_=>rfl
 | [a,b],h=>exact absurd rfl h
 |a::b::c::r,_=>rfl
theorem Ek(n:Nat)(op:Int)(t:Tr)(o:Own)(a b:Ex):eM (n+1) (.mk op t o [a,b])=if 1≤op∧op≤3∧rP t=true then (if eM n a<0∨eM n b<0 then-1 else 1+xR true (eM n a) (eM n b)) else-1:=by
 conv=>lhs;unfold eM
 rw[if_neg Zm]
theorem A8:∀(n:Nat) (hn:n≤100) (e:Ex) (h:Hp),aL Tryz.prog 204 [e.v, .int .i64 n] h (.int .i64 (eM n e)):=by
 intro n;induction n with
 |zero=>
  intro hn e h;refine aI (fun L=>trivial) fun h' nx hh=>aB L.aF8 fun hd=>?_;obtain⟨op,t,o,ks⟩:=e;rw[Kc];refine ZK ?_;have hz:=vR t;have k0:=kl0 ks;have k2:=kl2 ks;have hn0:(((0:Nat):Int)==0)=true:=rfl;have C1:∀h,aL Tryz.prog 179 [.agg [.str t.x, .int .i64 t.w.k, .int .i64 t.w.n, .str t.w.s]] h (.bool (iQ t)):=fun h=>oX t h;unfold eM
  (repeat' (first|(with_reducible first|refine stp ?_|refine cD ZM ?_|refine vH (fun _=>?_) (fun _=>?_))|((first|(with_reducible refine mJ ?_;first|refine kB rfl ?_ ?_|refine aJ (C1 _) rfl (aH _) ?_|refine Zx ?_)|(with_reducible refine mL ?_;first|refine kF rfl ?_ ?_|refine ZX ?_)|refine Zy ?_)<;>try simp only[Ex.cs.eq_1,Ex.op.eq_1,Ex.t.eq_1,Ex.o.eq_1,Ex.kids.eq_1,hz,k0,k2,hn0,jK,go_sem,reduceIte,jA,jB,jC,jD,reduceCtorEq,jE,jF])|refine ZY ?_|omega))
  all_goals refine aC h' (leo hd) ⟨vi ?_,rfl⟩
  all_goals simp_all
 |succ n ih=>
  intro hn e h;refine aI (fun L=>trivial) fun h' nx hh=>aB L.aF8 fun hd=>?_;obtain⟨op,t,o,ks⟩:=e;rw[Kc];refine ZK ?_;have hz:=vR t;have k0:=kl0 ks;have k2:=kl2 ks;have hn0:(((n+1:Nat):Int)==0)=false:=bqf;have hn1:((n:Int)+1==0)=false:=bqf;have C1:∀h,aL Tryz.prog 179 [.agg [.str t.x, .int .i64 t.w.k, .int .i64 t.w.n, .str t.w.s]] h (.bool (iQ t)):=fun h=>oX t h;have hw:IntKind.i64.wrap (((n+1:Nat):Int)-1)=(n:Int):=wrp;have hw':IntKind.i64.wrap ((n:Int)+1-1)=(n:Int):=wrp;by_cases hk:ks.length=2
  ·obtain⟨a,b,rfl⟩:∃a b,ks=[a,b]:=by
    match ks,hk with
    | [a,b],_=>exact⟨a,b,rfl⟩
   rw[Ek];have D1:=fun h=>ih or a h;have D2:=fun h=>ih or b h;have ha:=Ki a;have hb:=Ki b;have hm: [a,b].map Ex.v=[a.v,b.v]:=rfl;have hl:(((0+1+1:Nat):Int)==0)=false:=rfl;have hl2:(((0+1+1:Nat):Int) != 2)=false:=rfl;have hg1:=nO n a;have hg2:=nO n b;have hws:IntKind.i64.wrap (1+xR true (eM n a) (eM n b))=1+xR true (eM n a) (eM n b):=by
    unfold xR;rw[if_pos rfl];split<;>exact wrp
   (repeat' (first|(with_reducible first|refine stp ?_|refine cD ZM ?_|refine vH (fun _=>?_) (fun _=>?_))|((first|(with_reducible refine mJ ?_;first|refine kB rfl ?_ ?_|refine aJ (C1 _) rfl (aH _) ?_|refine Zx ?_)|(with_reducible refine mL ?_;first|refine kF rfl ?_ ?_|refine bC (D1 _) rfl (bA _) ?_|refine bC (D2 _) rfl (bA _) ?_|refine ZX ?_)|refine Zy ?_)<;>try simp only[Ex.cs.eq_1,Ex.op.eq_1,Ex.t.eq_1,Ex.o.eq_1,Ex.kids.eq_1,hz,hm,ha,hb,hl,hl2,hn0,hn1,hw,hw',hws,go_sem,reduceIte,jA,jB,jC,jD,reduceCtorEq,jE,jF])|refine ZY ?_|omega))
   all_goals refine aC h' (leo hd) ⟨vi ?_,rfl⟩
   all_goals try simp_all
   all_goals try (intros;omega)
  rw[wo _ _ _ _ _ hk];have k2':((ks.length:Int) != 2)=true:=bnt
  (repeat' (first|(with_reducible first|refine stp ?_|refine cD ZM ?_|refine vH (fun _=>?_) (fun _=>?_))|((first|(with_reducible refine mJ ?_;first|refine kB rfl ?_ ?_|refine aJ (C1 _) rfl (aH _) ?_|refine Zx ?_)|(with_reducible refine mL ?_;first|refine kF rfl ?_ ?_|refine ZX ?_)|refine Zy ?_)<;>try simp only[Ex.cs.eq_1,Ex.op.eq_1,Ex.t.eq_1,Ex.o.eq_1,Ex.kids.eq_1,hz,k0,k2',hn0,hn1,jK,go_sem,reduceIte,jA,jB,jC,jD,reduceCtorEq,jE,jF])|refine ZY ?_|omega))
  all_goals refine aC h' (leo hd) ⟨vi ?_,rfl⟩
  all_goals simp_all
theorem im(e:Ex)(h:Hp):aL Tryz.prog 142 [e.v] h (.bool (sA e)):=by
 refine aI (fun L=>trivial) fun h' nx hh=>aB L.aVG fun hd=>?_;have he:=Kc e;have C1:∀h,aL Tryz.prog 204 [.agg e.cs, .int .i64 20] h (.int .i64 (eM 20 e)):=fun h=>he▸A8 20 or e h;rw[he];refine ZK ?_;refine aue Ex.cs.eq_1 ?_;refine aC h' (leo hd) ⟨vb ?_,rfl⟩;have:=wO 20 e;unfold sA;rw[←this];simp
theorem m6{α:Type}(p:α→Bool)(l:List α):(!l.any fun x=> !p x)=l.all p:=by
 induction l with
 |nil=>rfl
 |cons a r ih=>simp only[List.any_cons,Ql,Bool.not_or,ih,Bool.not_not]
theorem B9:aE Tryz.prog 226=some (LB.aAU (.agg 17)):=Zz
theorem Cb:aE Tryz.prog 180=some (LB.ContainsFunc (.agg 17) 226):=Zz
theorem B8:aE Tryz.prog 250=some (LB.aAU (.agg 4)):=Zz
theorem Ca:aE Tryz.prog 223=some (LB.ContainsFunc (.agg 4) 250):=Zz
theorem mf(g:Nat)(p:Tr→Bool)(t:Tr)(h:Hp)(n:Nat)(hn:h n=some (.arr .leaf [.fn (.func g) [] []]))(hp:∀h,aL Tryz.prog g [t.v] h (.bool (p t))):aL Tryz.prog 224 [t.v, .ptr n .leaf 0 0] h (.bool (!p t)):=by
 refine aI (fun L=>trivial) fun h' nx hh=>aB L.aUF fun hd=>?_;refine ZK ?_;have hn1:=hh _ _ hn rfl;have hn2:n<nx:=hd _ _ hn1;refine aue (e4 Tr.v.eq_1 hn1 hn2 Tr.aAD) ?_;refine cM rfl (hp _) rfl (aH _) ?_;refine Zn ?_;refine au ?_;exact aC h' (leo hd) ⟨rfl,rfl⟩
theorem rj(g:Nat)(p:Tr→Bool)(o:Own)(l:List Tr)(hl:l.length≤1000000)(h:Hp)(hp:∀(t:Tr) (h:Hp),aL Tryz.prog g [t.v] h (.bool (p t))):aL Tryz.prog 178 [trs o l, .fn (.func g) [] []] h (.bool (l.all p)):=by
 refine aI (fun L=>trivial) fun h' nx hh=>aB L.aWz fun hd=>?_;refine ZK ?_;have C1:∀h:Hp,h nx=some (.arr .leaf [.fn (.func g) [] []])→aL Tryz.prog 223 [.sl (.agg 4) o (l.map Tr.v), .fn (.func 224) [] [.ptr nx .leaf 0 0]] h (.bool (l.any fun x=> !p x)):=fun h hn=>
  fX Tr.v Tr.aAD Ca B8 (fun x=> !p x) o l _ _ h (fun t ht=>mf g p t h nx hn (hp t)) or
 refine au ?_;refine aJ (C1 _ (by simp[Kb])) rfl (aH _) ?_;refine Zn ?_;refine au ?_;refine aC h' (leo hd) ⟨?_,rfl⟩;rw[←m6];rfl
theorem mg(g:Nat)(p:Li→Bool)(t:Li)(h:Hp)(n:Nat)(hn:h n=some (.arr .leaf [.fn (.func g) [] []]))(hp:∀h,aL Tryz.prog g [t.v] h (.bool (p t))):aL Tryz.prog 181 [t.v, .ptr n .leaf 0 0] h (.bool (!p t)):=by
 refine aI (fun L=>trivial) fun h' nx hh=>aB L.aWy fun hd=>?_;refine ZK ?_;have hn1:=hh _ _ hn rfl;have hn2:n<nx:=hd _ _ hn1;obtain⟨T,hT⟩:∃T:List V,T=([.int .i64 t.k, .str t.a.r,trs t.a.o t.a.l, .int .i64 t.op]++t.x.cs++t.y.cs++[.int .i64 t.at_]):=⟨_,rfl⟩;have hv:t.v= .agg T:=by rw[hT];rfl
 have hf:(V.agg T).fits (.agg 17)=true:=by rw[←hv];exact Li.aAD t
 rw[hv];rw[hv] at hp;refine aue (e3 hn1 hn2 hf) ?_;refine cM rfl (hp _) rfl (aH _) ?_;refine Zn ?_;refine au ?_;exact aC h' (leo hd) ⟨rfl,rfl⟩
theorem rk(g:Nat)(p:Li→Bool)(o:Own)(l:List Li)(hl:l.length≤1000000)(h:Hp)(hp:∀t∈l,∀h:Hp,aL Tryz.prog g [t.v] h (.bool (p t))):aL Tryz.prog 119 [.sl (.agg 17) o (l.map Li.v), .fn (.func g) [] []] h (.bool (l.all p)):=by
 refine aI (fun L=>trivial) fun h' nx hh=>aB L.aXi fun hd=>?_;refine ZK ?_;have C1:∀h:Hp,h nx=some (.arr .leaf [.fn (.func g) [] []])→aL Tryz.prog 180 [.sl (.agg 17) o (l.map Li.v), .fn (.func 181) [] [.ptr nx .leaf 0 0]] h (.bool (l.any fun x=> !p x)):=fun h hn=>
  fX Li.v Li.aAD Cb B9 (fun x=> !p x) o l _ _ h (fun t ht=>mg g p t h nx hn (hp t ht)) or
 refine au ?_;refine aJ (C1 _ (by simp[Kb])) rfl (aH _) ?_;refine Zn ?_;refine au ?_;refine aC h' (leo hd) ⟨?_,rfl⟩;rw[←m6];rfl
theorem zP(a:Am)(h:Hp):aL Tryz.prog 117 [a.v] h (.bool (nZ a)):=by
 refine aI (fun L=>trivial) fun h' nx hh=>aB L.aXk fun hd=>?_;refine ZK ?_;have C1:=fun h=>uw a.r h;unfold nZ;by_cases h1:a.l.length≤6
 ·have C2:∀h:Hp,aL Tryz.prog 178 [.sl (.agg 4) a.o (a.l.map Tr.v), .fn (.func 179) [] []] h (.bool (a.l.all iQ)):=fun h=>rj _ iQ a.o a.l or h oX;have g1:decide ((a.l.length:Int)≤6)=true:=dct
  (repeat' (first|(with_reducible first|refine stp ?_|refine cD ZM ?_|refine vH (fun _=>?_) (fun _=>?_))|((first|(with_reducible refine mJ ?_;first|refine kB rfl ?_ ?_|refine aJ (C1 _) rfl (aH _) ?_|refine aJ (C2 _) rfl (aH _) ?_|refine Zx ?_)|(with_reducible refine mL ?_;first|refine kF rfl ?_ ?_|refine ZX ?_)|refine Zy ?_)<;>try simp only[Am.v.eq_1,g1,jK,go_sem,reduceIte,jA,jB,jC,jD,reduceCtorEq,jE,jF])|refine ZY ?_|omega))
  all_goals refine aC h' (leo hd) ⟨vb ?_,rfl⟩
  all_goals simp_all
 have g1:decide ((a.l.length:Int)≤6)=false:=dcf
 (repeat' (first|(with_reducible first|refine stp ?_|refine cD ZM ?_|refine vH (fun _=>?_) (fun _=>?_))|((first|(with_reducible refine mJ ?_;first|refine kB rfl ?_ ?_|refine aJ (C1 _) rfl (aH _) ?_|refine Zx ?_)|(with_reducible refine mL ?_;first|refine kF rfl ?_ ?_|refine ZX ?_)|refine Zy ?_)<;>try simp only[Am.v.eq_1,g1,jK,go_sem,reduceIte,jA,jB,jC,jD,reduceCtorEq,jE,jF])|refine ZY ?_|omega))
 all_goals refine aC h' (leo hd) ⟨vb ?_,rfl⟩
 all_goals simp_all
 all_goals try omega
theorem kn0{α:Type}(l:List α):((l.length:Int)==0)=decide (l=[]):=by cases l<;>simp<;>omega
theorem Li.aAl(l:Li):l.v= .agg [.int .i64 l.k, .str l.a.r,trs l.a.o l.a.l, .int .i64 l.op, .int .i64 l.x.op, .str l.x.t.x, .int .i64 l.x.t.w.k, .int .i64 l.x.t.w.n, .str l.x.t.w.s, .sl (.agg 6) l.x.o (l.x.kids.map Ex.v), .int .i64 l.y.op, .str l.y.t.x, .int .i64 l.y.t.w.k, .int .i64 l.y.t.w.n, .str l.y.t.w.s, .sl (.agg 6) l.y.o (l.y.kids.map Ex.v), .int .i64 l.at_]:=rfl
theorem ij(l:Li)(h:Hp):aL Tryz.prog 91 [l.v] h (.bool (bW l)):=by
 refine aI (fun L=>trivial) fun h' nx hh=>aB L.aXu fun hd=>?_;rw[Li.aAl];refine ZK ?_;have C1:∀h:Hp,aL Tryz.prog 117 [.agg [.str l.a.r, .sl (.agg 4) l.a.o (l.a.l.map Tr.v)]] h (.bool (nZ l.a)):=fun h=>zP l.a h;have N1:∀h:Hp,aL Tryz.prog 141 [.agg [.int .i64 l.x.op, .str l.x.t.x, .int .i64 l.x.t.w.k, .int .i64 l.x.t.w.n, .str l.x.t.w.s, .sl (.agg 6) l.x.o (l.x.kids.map Ex.v)]] h (.bool (wU l.x)):=fun h=>Kc l.x▸iv l.x h;have N2:∀h:Hp,aL Tryz.prog 141 [.agg [.int .i64 l.y.op, .str l.y.t.x, .int .i64 l.y.t.w.k, .int .i64 l.y.t.w.n, .str l.y.t.w.s, .sl (.agg 6) l.y.o (l.y.kids.map Ex.v)]] h (.bool (wU l.y)):=fun h=>Kc l.y▸iv l.y h;have X1:∀h:Hp,aL Tryz.prog 142 [.agg [.int .i64 l.x.op, .str l.x.t.x, .int .i64 l.x.t.w.k, .int .i64 l.x.t.w.n, .str l.x.t.w.s, .sl (.agg 6) l.x.o (l.x.kids.map Ex.v)]] h (.bool (sA l.x)):=fun h=>Kc l.x▸im l.x h;have X2:∀h:Hp,aL Tryz.prog 142 [.agg [.int .i64 l.y.op, .str l.y.t.x, .int .i64 l.y.t.w.k, .int .i64 l.y.t.w.n, .str l.y.t.w.s, .sl (.agg 6) l.y.o (l.y.kids.map Ex.v)]] h (.bool (sA l.y)):=fun h=>Kc l.y▸im l.y h;have s0:=vS l.a.r;have k0:=kn0 l.a.l;unfold bW
 (repeat' (first|(with_reducible first|refine stp ?_|refine cD ZM ?_|refine vH (fun _=>?_) (fun _=>?_))|((first|(with_reducible refine mJ ?_;first|refine kB rfl ?_ ?_|refine aJ (C1 _) rfl (aH _) ?_|refine aJ (N1 _) rfl (aH _) ?_|refine aJ (N2 _) rfl (aH _) ?_|refine aJ (X1 _) rfl (aH _) ?_|refine aJ (X2 _) rfl (aH _) ?_|refine Zx ?_)|(with_reducible refine mL ?_;first|refine kF rfl ?_ ?_|refine ZX ?_)|refine Zy ?_)<;>try simp only[s0,k0,jK,go_sem,reduceIte,jA,jB,jC,jD,reduceCtorEq,jE,jF])|refine ZY ?_|omega))
 all_goals refine aC h' (leo hd) ⟨vb ?_,rfl⟩
 all_goals simp_all
 all_goals try omega
theorem xY(r:Ru)(h:Hp):aL Tryz.prog 118 [r.v] h (.bool (Ey r)):=by
 refine aI (fun L=>trivial) fun h' nx hh=>aB L.aXj fun hd=>?_;obtain⟨⟨hr,ho,hl⟩,g,c,o,b,at_⟩:=r;refine ZK ?_;unfold Ey;by_cases hc:0≤c∧c<hl.length
 ·obtain⟨n,rfl⟩:∃n:Nat,c=n:=⟨c.toNat,or⟩;have hn:n<hl.length:=or;have g1:decide ((n:Int)<0)=false:=dcf;have g2:decide ((hl.length:Int)≤(n:Int))=false:=dcf;have g3:decide ((n:Int)≥(hl.length:Int))=false:=dcf;have hg:=aO Tr.v hl n hn;have hD:hl.getD n xi=hl[n]:=by rw[Kq,KB hn];rfl
  have s0:=vS hl[n].x
  (repeat' (first|(with_reducible first|refine stp ?_|refine cD ZM ?_|refine vH (fun _=>?_) (fun _=>?_))|((first|(with_reducible refine mJ ?_;first|refine kB rfl ?_ ?_|refine Zx ?_)|(with_reducible refine mL ?_;first|refine kF rfl ?_ ?_|refine ZX ?_)|refine Zy ?_)<;>try simp only[Ru.v.eq_1,g1,g2,g3,hg,hn,s0,Tr.v.eq_1,jK,jG,go_sem,reduceIte,jA,jB,jC,jD,reduceCtorEq,jE,jF])|refine ZY ?_|omega))
  all_goals refine aC h' (leo hd) ⟨vb ?_,rfl⟩
  all_goals simp_all
  all_goals try omega
 rcases(by omega:c<0∨(hl.length:Int)≤c) with hc|hc
 ·have g1:decide (c<0)=true:=dct
  (repeat' (first|(with_reducible first|refine stp ?_|refine cD ZM ?_|refine vH (fun _=>?_) (fun _=>?_))|((first|(with_reducible refine mJ ?_;first|refine kB rfl ?_ ?_|refine Zx ?_)|(with_reducible refine mL ?_;first|refine kF rfl ?_ ?_|refine ZX ?_)|refine Zy ?_)<;>try simp only[Ru.v.eq_1,g1,jK,go_sem,reduceIte,jA,jB,jC,jD,reduceCtorEq,jE,jF])|refine ZY ?_|omega))
  all_goals refine aC h' (leo hd) ⟨vb ?_,rfl⟩
  all_goals simp_all
  all_goals try omega
 have g1:decide (c<0)=false:=dcf;have g2:decide ((hl.length:Int)≤c)=true:=dct;have g3:decide (c≥(hl.length:Int))=true:=dct
 (repeat' (first|(with_reducible first|refine stp ?_|refine cD ZM ?_|refine vH (fun _=>?_) (fun _=>?_))|((first|(with_reducible refine mJ ?_;first|refine kB rfl ?_ ?_|refine Zx ?_)|(with_reducible refine mL ?_;first|refine kF rfl ?_ ?_|refine ZX ?_)|refine Zy ?_)<;>try simp only[Ru.v.eq_1,g1,g2,g3,jK,go_sem,reduceIte,jA,jB,jC,jD,reduceCtorEq,jE,jF])|refine ZY ?_|omega))
 all_goals refine aC h' (leo hd) ⟨vb ?_,rfl⟩
 all_goals simp_all
 all_goals try omega
theorem ui(r:Ru)(h:Hp):aL Tryz.prog 70 [r.v] h (.bool (dW r)):=by
 refine aI (fun L=>trivial) fun h' nx hh=>aB L.aX7 fun hd=>?_;refine ZK ?_;have C1:∀h:Hp,aL Tryz.prog 117 [.agg [.str r.h.r, .sl (.agg 4) r.h.o (r.h.l.map Tr.v)]] h (.bool (nZ r.h)):=fun h=>zP r.h h;have C2:∀h:Hp,aL Tryz.prog 118 [.agg [.str r.h.r, .sl (.agg 4) r.h.o (r.h.l.map Tr.v), .int .i64 r.g, .int .i64 r.c, .sl (.agg 17) r.o (r.b.map Li.v), .int .i64 r.at_]] h (.bool (Ey r)):=fun h=>xY r h;unfold dW;by_cases h1:r.b.length≤8
 ·have C3:∀h:Hp,aL Tryz.prog 119 [.sl (.agg 17) r.o (r.b.map Li.v), .fn (.func 91) [] []] h (.bool (r.b.all bW)):=fun h=>rk _ bW r.o r.b or h (fun t _=>ij t);have g1:decide ((r.b.length:Int)≤8)=true:=dct
  (repeat' (first|(with_reducible first|refine stp ?_|refine cD ZM ?_|refine vH (fun _=>?_) (fun _=>?_))|((first|(with_reducible refine mJ ?_;first|refine kB rfl ?_ ?_|refine aJ (C1 _) rfl (aH _) ?_|refine aJ (C2 _) rfl (aH _) ?_|refine aJ (C3 _) rfl (aH _) ?_|refine Zx ?_)|(with_reducible refine mL ?_;first|refine kF rfl ?_ ?_|refine ZX ?_)|refine Zy ?_)<;>try simp only[Ru.v.eq_1,g1,jK,go_sem,reduceIte,jA,jB,jC,jD,reduceCtorEq,jE,jF])|refine ZY ?_|omega))
  all_goals refine aC h' (leo hd) ⟨vb ?_,rfl⟩
  all_goals simp_all
  all_goals try omega
 have g1:decide ((r.b.length:Int)≤8)=false:=dcf
 (repeat' (first|(with_reducible first|refine stp ?_|refine cD ZM ?_|refine vH (fun _=>?_) (fun _=>?_))|((first|(with_reducible refine mJ ?_;first|refine kB rfl ?_ ?_|refine aJ (C1 _) rfl (aH _) ?_|refine aJ (C2 _) rfl (aH _) ?_|refine Zx ?_)|(with_reducible refine mL ?_;first|refine kF rfl ?_ ?_|refine ZX ?_)|refine Zy ?_)<;>try simp only[Ru.v.eq_1,g1,jK,go_sem,reduceIte,jA,jB,jC,jD,reduceCtorEq,jE,jF])|refine ZY ?_|omega))
 all_goals refine aC h' (leo hd) ⟨vb ?_,rfl⟩
 all_goals simp_all
 all_goals try omega
end Go.Proofs.YtlhedpgobaellaaGreatDoor
namespace Go.Proofs.YtlhedpgobaellaaGreatDoor
open Go.RowKit
attribute [local go_sem] Option.some.injEq Prod.mk.injEq false_and and_false Bool.true_eq_false Fk C9 EM wu BW if_true Qm CZ pW cd pI iI aA.ok aA.next LOp.ok LOp.next aW.ok aW.out aK.ev bI sr nJ lM wB V.undef Sh.size oO wN gL aA.dok aA.aCr LOp.dok LOp.aD5 rq r8 gF gG List.take_succ_cons Qf List.take_nil List.drop_succ_cons Qg List.drop_nil List.set_cons_succ List.set_cons_zero List.getD_cons_succ List.getD_cons_zero jL jM KJ KL Ql List.all_nil KS KK jN jO jP jQ KO List.isEmpty_cons List.isEmpty_nil eF fL qC Option.getD_some Option.isSome_some Option.isSome_none Nat.add_eq KW KX true_and and_true and_self true_implies implies_true false_implies forall_const forall_eq forall_eq_or_imp ne_eq not_false_eq_true not_true_eq_false Bool.not_true Bool.not_false decide_true decide_false Bool.and_true Qm Bool.and_false Bool.false_and true_or or_true false_or or_false eq_self Bool.false_eq_true E0 BP iC aD cN dK gI vE qW vD jV mB dB jG KR Kt Hp.aAM Hp.aAp uY sI aA.plain LOp.aAW aA.aBu LOp.aBm qd Ff CG FV v6 V.aC8 V.aCS ye po pq yd pG bP lF mY oH beq_true beq_false io ip iq aq av sZ tA gW rf be jh je tT jf ji qj qk tU jg rJ bd ql xF jd xG pO tj Bp Bq Bo jz di sf fZ nr nq np nn nm yS yR gp gn gm yV yU yT nw nu ns gu gr gq qX c8 dR yO Hp.aBX kG Option.isNone_some Option.isNone_none
namespace LB
abbrev aGH(k:Sh):List aA:=[
 ⟨some 4,none, .val (.move (.const (.sl k .nil [])))⟩]
abbrev aGG:List aA:=[
 ⟨some 5,none, .val (.move (.slot 1))⟩,
 ⟨some 6,none, .val (.bin .lss (.slot 5) (.const (.int .i64 0)))⟩]
abbrev aGF(ts:Nat):List aA:=[
 ⟨some 7,none, .val (.mkif ts (.const (.str ⟨#[99,97,110,110,111,116,32,98,101,32,110,101,103,97,116,105,118,101]⟩)))⟩,
 ⟨none,none, .val (.never)⟩]
abbrev aGE:List aA:=[
 ⟨some 8,none, .val (.move (.slot 1))⟩,
 ⟨some 9,none, .val (.move (.slot 0))⟩,
 ⟨some 10,none, .val (.capv (.slot 9))⟩,
 ⟨some 11,none, .val (.move (.slot 0))⟩,
 ⟨some 12,none, .val (.len (.slot 11))⟩,
 ⟨some 13,none, .val (.bin .sub (.slot 10) (.slot 12))⟩,
 ⟨some 14,none, .val (.bin .sub (.slot 8) (.slot 13))⟩,
 ⟨some 1,none, .val (.move (.slot 14))⟩]
abbrev aGD:List aA:=[
 ⟨some 15,none, .val (.move (.slot 1))⟩,
 ⟨some 16,none, .val (.bin .gtr (.slot 15) (.const (.int .i64 0)))⟩]
abbrev aGC(k:Sh)(z:V)(bs:Nat):List aA:=[
 ⟨some 17,none, .val (.move (.slot 0))⟩,
 ⟨some 18,none, .val (.move (.slot 0))⟩,
 ⟨some 19,none, .val (.capv (.slot 18))⟩,
 ⟨some 20,none, .val (.slc k (.slot 17) .none (.some (.slot 19)) .none)⟩,
 ⟨some 21,none, .val (.move (.slot 1))⟩,
 ⟨some 22,none, .appz k bs (.slot 20) (.slot 21) z⟩,
 ⟨some 23,none, .val (.move (.slot 0))⟩,
 ⟨some 24,none, .val (.len (.slot 23))⟩,
 ⟨some 25,none, .val (.slc k (.slot 22) .none (.some (.slot 24)) .none)⟩,
 ⟨some 0,none, .val (.move (.slot 25))⟩]
abbrev aGB:List aA:=[
 ⟨some 26,none, .val (.move (.slot 0))⟩,
 ⟨some 4,none, .val (.move (.slot 26))⟩]
def Grow(k:Sh)(z:V)(bs:Nat)(ts:Nat):LFn:=⟨(.seq (.ops (aGH k)) (.seq (.seq (.ops aGG) (.cond (.slot 6) (.ops (aGF ts)) .skip)) (.seq (.seq (.ops aGE) (.seq (.ops aGD) (.cond (.slot 16) (.ops (aGC k z bs)) .skip))) (.seq (.ops aGB) .ret)))),27,[.slot 4]⟩
abbrev aDU(k:Sh):List aA:=[
 ⟨some 2,none, .val (.move (.const (.sl k .nil [])))⟩]
abbrev aDT:List aA:=[
 ⟨some 3,none, .val (.move (.const (.int .i64 0)))⟩]
abbrev aDS:List aA:=[
 ⟨some 9,none, .val (.move (.slot 0))⟩,
 ⟨some 10,none, .val (.len (.slot 9))⟩,
 ⟨some 11,none, .val (.move (.const (.int .i64 0)))⟩]
abbrev aDR:List aA:=[
 ⟨some 12,none, .val (.bin .lss (.slot 11) (.slot 10))⟩]
abbrev aDQ:List aA:=[
 ⟨some 13,none, .val (.idxA .leaf (.slot 9) (.slot 11))⟩,
 ⟨some 14,none, .val (.load .leaf (.slot 13))⟩,
 ⟨some 5,none, .val (.move (.slot 14))⟩]
abbrev aDP:List aA:=[
 ⟨some 15,none, .val (.move (.slot 3))⟩,
 ⟨some 16,none, .val (.move (.slot 5))⟩,
 ⟨some 17,none, .val (.len (.slot 16))⟩,
 ⟨some 18,none, .val (.bin .add (.slot 15) (.slot 17))⟩,
 ⟨some 3,none, .val (.move (.slot 18))⟩]
abbrev aDO:List aA:=[
 ⟨some 19,none, .val (.move (.slot 3))⟩,
 ⟨some 20,none, .val (.bin .lss (.slot 19) (.const (.int .i64 0)))⟩]
abbrev aDN(ts:Nat):List aA:=[
 ⟨some 21,none, .val (.mkif ts (.const (.str ⟨#[108,101,110,32,111,117,116,32,111,102,32,114,97,110,103,101]⟩)))⟩,
 ⟨none,none, .val (.never)⟩]
abbrev aDM:List aA:=[
 ⟨some 22,none, .val (.bin .add (.slot 11) (.const (.int .i64 1)))⟩,
 ⟨some 11,none, .val (.move (.slot 22))⟩]
abbrev aDW(ts:Nat):aS:=(.seq (.ops aDR) (.seq (.cond (.slot 12) .skip (.exit 0)) (.seq (.block 1 (.seq (.ops aDQ) (.seq (.ops aDP) (.seq (.ops aDO) (.cond (.slot 20) (.ops (aDN ts)) .skip))))) (.ops aDM))))
abbrev aDL(k:Sh)(f0:Nat):List aA:=[
 ⟨some 23,none, .val (.move (.slot 3))⟩,
 ⟨some 24,none, .call f0 [(.const (.sl k .nil [])),(.slot 23)]⟩,
 ⟨some 6,none, .val (.move (.slot 24))⟩]
abbrev aCh:List aA:=[
 ⟨some 25,none, .val (.move (.slot 0))⟩,
 ⟨some 26,none, .val (.len (.slot 25))⟩,
 ⟨some 27,none, .val (.move (.const (.int .i64 0)))⟩]
abbrev aCg:List aA:=[
 ⟨some 28,none, .val (.bin .lss (.slot 27) (.slot 26))⟩]
abbrev aCf:List aA:=[
 ⟨some 29,none, .val (.idxA .leaf (.slot 25) (.slot 27))⟩,
 ⟨some 30,none, .val (.load .leaf (.slot 29))⟩,
 ⟨some 8,none, .val (.move (.slot 30))⟩]
abbrev aCe(k:Sh)(bs:Nat):List aA:=[
 ⟨some 31,none, .val (.move (.slot 6))⟩,
 ⟨some 32,none, .val (.move (.slot 8))⟩,
 ⟨some 33,none, .append k bs (.slot 31) (.slot 32)⟩,
 ⟨some 6,none, .val (.move (.slot 33))⟩]
abbrev aCd:List aA:=[
 ⟨some 34,none, .val (.bin .add (.slot 27) (.const (.int .i64 1)))⟩,
 ⟨some 27,none, .val (.move (.slot 34))⟩]
abbrev aDV(k:Sh)(bs:Nat):aS:=(.seq (.ops aCg) (.seq (.cond (.slot 28) .skip (.exit 2)) (.seq (.block 3 (.seq (.ops aCf) (.ops (aCe k bs)))) (.ops aCd))))
abbrev aCc:List aA:=[
 ⟨some 35,none, .val (.move (.slot 6))⟩,
 ⟨some 2,none, .val (.move (.slot 35))⟩]
def Concat(k:Sh)(bs:Nat)(ts:Nat)(f0:Nat):LFn:=⟨(.seq (.ops (aDU k)) (.seq (.ops aDT) (.seq (.seq (.ops aDS) (.block 0 (.loop (aDW ts)))) (.seq (.ops (aDL k f0)) (.seq (.seq (.ops aCh) (.block 2 (.loop (aDV k bs)))) (.seq (.ops aCc) .ret)))))),36,[.slot 2]⟩
end LB
section
variable{P:Program}{k:Sh}{bs ts:Nat}
theorem CC{f:Nat}{z:V}(hL:aE P f=some (LB.Grow k z bs ts))(m:Nat)(hm:m≤1000000000)(hbs:bs≤140737)(h':Hp)(nx:Nat):
 aR P f [.sl k .nil [], .int .i64 m] h' nx fun v h'' _=>(m=0∧v= .sl k .nil []∧h''=h')∨(0<m∧∃id es,nx≤id∧v= .rs id k 0 0∧h''=h'.set id (.arr k es)):=by
 have hb:=qY hm hbs;refine aB hL fun hd=>?_;refine ZK ?_;have w1:IntKind.i64.wrap ((m:Int)-0)=m:=by rw[fI]<;>omega
 have w2:IntKind.i64.wrap ((0:Int)-0)=0:=by rw[fI]<;>omega
 repeat (first|with_reducible refine bK ?_|with_reducible refine bF ?_|with_reducible refine bY ?_|with_reducible refine aY ?_|with_reducible refine aT ?_|with_reducible refine bS ?_|(refine bZ rfl (by simp only[ go_sem,reduceIte,jA,jB,jC,jD,reduceCtorEq,jE,jF];try omega) ?_;simp only[ go_sem,reduceIte,jA,jB,jC,jD,reduceCtorEq,jE,jF])|(with_reducible refine bM ?_))
 refine cU _ rfl (fun hc=>?_) (fun hc=>?_)
 ·have:=of_decide_eq_true hc;omega
 repeat (first|with_reducible refine bK ?_|with_reducible refine bF ?_|with_reducible refine bY ?_|with_reducible refine aY ?_|with_reducible refine aT ?_|with_reducible refine bS ?_|(refine bZ rfl (by simp only[w1,w2,jJ,go_sem,reduceIte,jA,jB,jC,jD,reduceCtorEq,jE,jF];try omega) ?_;simp only[w1,w2,jJ,go_sem,reduceIte,jA,jB,jC,jD,reduceCtorEq,jE,jF])|(with_reducible refine bM ?_))
 refine cU _ rfl (fun hc=>?_) (fun hc=>?_)
 ·have aAg:0<m:=by have:=of_decide_eq_true hc;omega
  have aGf:(0<(m:Int)):=or;repeat (first|with_reducible refine bK ?_|with_reducible refine bF ?_|with_reducible refine bY ?_|with_reducible refine aY ?_|with_reducible refine aT ?_|with_reducible refine bS ?_|(refine bZ rfl (by simp only[w1,w2,jJ,hb,aGf,aAg,KR,KY,Qp,go_sem,reduceIte,jA,jB,jC,jD,reduceCtorEq,jE,jF];try omega) ?_;simp only[w1,w2,jJ,hb,aGf,aAg,KR,KY,Qp,go_sem,reduceIte,jA,jB,jC,jD,reduceCtorEq,jE,jF])|(with_reducible refine bM ?_))
  refine dE (aC _ (Ka _) ⟨nx,Qh m z,Kj _,?_,?_⟩)
  ·simp only[go_sem,reduceIte,jA,jB,jC,jD,reduceCtorEq,jE,jF]
  rfl
 have hz:m=0:=by have:=of_decide_eq_false hc;omega
 repeat (first|with_reducible refine bK ?_|with_reducible refine bF ?_|with_reducible refine bY ?_|with_reducible refine aY ?_|with_reducible refine aT ?_|with_reducible refine bS ?_|(refine bZ rfl (by simp only[ go_sem,reduceIte,jA,jB,jC,jD,reduceCtorEq,jE,jF];try omega) ?_;simp only[ go_sem,reduceIte,jA,jB,jC,jD,reduceCtorEq,jE,jF])|(with_reducible refine bM ?_))
 refine dE (aC h' (Ka _) (.inl ⟨hz,?_,rfl⟩));simp only[go_sem,reduceIte,jA,jB,jC,jD,reduceCtorEq,jE,jF]
def cF(L:List (Own×List V)):List V:=L.flatMap (·.2)
theorem yZ(L:List (Own×List V))(i:Nat)(h:i<L.length):cF (L.take (i+1))=cF (L.take i)++L[i].2:=by
 unfold cF;rw[Kg h,KE];simp
theorem g7(L:List (Own×List V))(i:Nat):(cF (L.take i)).length≤(cF L).length:=by
 have:cF L=cF (L.take i)++cF (L.drop i):=by
  unfold cF;rw[←KE,KP]
 rw[this];simp
theorem mr{f f0:Nat}{z:V}(hL:aE P f=some (LB.Concat k bs ts f0))(hL0:aE P f0=some (LB.Grow k z bs ts))(hbs:bs≤140737)(own:Own)(L:List (Own×List V))(hl:L.length≤1000000)(ht:(cF L).length≤100000000)(h':Hp)(nx:Nat):
 aR P f [.sl .leaf own (L.map fun p=> .sl k p.1 p.2)] h' nx fun v h'' _=>nf nx h' k (cF L) v h'':=by
 refine aB hL fun hd=>?_;refine ZK ?_;repeat (first|with_reducible refine bK ?_|with_reducible refine bF ?_|with_reducible refine bY ?_|with_reducible refine aY ?_|with_reducible refine aT ?_|with_reducible refine bS ?_|(refine bZ rfl (by simp only[ go_sem,reduceIte,jA,jB,jC,jD,reduceCtorEq,jE,jF];try omega) ?_;simp only[ go_sem,reduceIte,jA,jB,jC,jD,reduceCtorEq,jE,jF])|(with_reducible refine bM ?_))
 refine aP (fun i:Nat=>aD 36 0 [(0, .sl .leaf own (L.map fun p=> .sl k p.1 p.2)),(3, .int .i64 (cF (L.take i)).length),(9, .sl .leaf own (L.map fun p=> .sl k p.1 p.2)),(10, .int .i64 L.length),(11, .int .i64 i)]) (fun i h2 nx2=>i≤L.length∧h2=h'∧nx≤nx2) (fun i=>L.length-i) 0 ⟨Ko _,rfl,Kj _⟩ ?_ ?_
 ·have e0:cF ([]:List (Own×List V))=[]:=rfl;simp only[WkL,aD,jH,jI,jJ,e0,jK,go_sem,reduceIte,jA,jB,jC,jD,reduceCtorEq,jE,jF]
 rintro i h2 nx2 ⟨hi,rfl,hnx⟩;generalize hQ:bB _ _ _ _ _=Q0;refine Zk ?_;repeat (first|with_reducible refine bK ?_|with_reducible refine bF ?_|with_reducible refine bY ?_|with_reducible refine aY ?_|with_reducible refine aT ?_|with_reducible refine bS ?_|(refine bZ rfl (by simp only[ go_sem,reduceIte,jA,jB,jC,jD,reduceCtorEq,jE,jF];try omega) ?_;simp only[ go_sem,reduceIte,jA,jB,jC,jD,reduceCtorEq,jE,jF])|(with_reducible refine bM ?_))
 refine cU _ rfl (fun hc=>?_) (fun hc=>?_)
 ·have hlt:i<L.length:=by have:=of_decide_eq_true hc;omega
  have hg:=aO (fun p:Own×List V=>V.sl k p.1 p.2) L i hlt;have hlen:(i:Int)<((L.map fun p=>V.sl k p.1 p.2).length:Int):=by simp;omega
  have h0:=g7 L (i+1);have h1:=congrArg Qq (yZ L i hlt);rw[Ky] at h1;have hw:IntKind.i64.wrap (((cF (L.take i)).length:Int)+(L[i].2.length:Int))=((cF (L.take (i+1))).length:Int):=by rw[fI]<;>omega
  repeat (first|with_reducible refine bK ?_|with_reducible refine bF ?_|with_reducible refine bY ?_|with_reducible refine aY ?_|with_reducible refine aT ?_|with_reducible refine bS ?_|(refine bZ rfl (by simp only[hg,hlen,hlt,hw,jG,jK,go_sem,reduceIte,jA,jB,jC,jD,reduceCtorEq,jE,jF];try omega) ?_;simp only[hg,hlen,hlt,hw,jG,jK,go_sem,reduceIte,jA,jB,jC,jD,reduceCtorEq,jE,jF])|(with_reducible refine bM ?_))
  refine cU _ rfl (fun hc2=>?_) (fun hc2=>?_)
  ·have:=of_decide_eq_true hc2;omega
  repeat (first|with_reducible refine bK ?_|with_reducible refine bF ?_|with_reducible refine bY ?_|with_reducible refine aY ?_|with_reducible refine aT ?_|with_reducible refine bS ?_|(refine bZ rfl (by simp only[ go_sem,reduceIte,jA,jB,jC,jD,reduceCtorEq,jE,jF];try omega) ?_;simp only[ go_sem,reduceIte,jA,jB,jC,jD,reduceCtorEq,jE,jF])|(with_reducible refine bM ?_))
  rw[fI or or,←hQ];refine aG (i+1) or ⟨or,rfl,or⟩ ?_;simp only[WkL,aD,jH,jI,jJ,go_sem,reduceIte,jA,jB,jC,jD,reduceCtorEq,jE,jF]
 have hge:i=L.length:=by have:=of_decide_eq_false hc;omega
 rw[←hQ];refine pL ?_;repeat (first|with_reducible refine kZ ?_|with_reducible refine jX ?_|with_reducible refine gT ?_|with_reducible refine cD ZM ?_|with_reducible refine fV ?_|with_reducible refine aY ?_)
 have hT:cF (L.take i)=cF L:=by rw[hge,Kt]
 rw[hT];repeat (first|with_reducible refine bK ?_|with_reducible refine bF ?_|with_reducible refine bY ?_|with_reducible refine aY ?_|with_reducible refine aT ?_|with_reducible refine bS ?_|(refine bZ rfl (by simp only[ go_sem,reduceIte,jA,jB,jC,jD,reduceCtorEq,jE,jF];try omega) ?_;simp only[ go_sem,reduceIte,jA,jB,jC,jD,reduceCtorEq,jE,jF])|(with_reducible refine bM ?_))
 refine aU ((CC hL0 (cF L).length or hbs _ _).dom.mono ?_);rintro v h3 nx3 aE7 ⟨hv,aGu,_⟩;unfold bT;refine Zn ?_;repeat (first|with_reducible refine bK ?_|with_reducible refine bF ?_|with_reducible refine bY ?_|with_reducible refine aY ?_|with_reducible refine aT ?_|with_reducible refine bS ?_|(refine bZ rfl (by simp only[jK,go_sem,reduceIte,jA,jB,jC,jD,reduceCtorEq,jE,jF];try omega) ?_;simp only[jK,go_sem,reduceIte,jA,jB,jC,jD,reduceCtorEq,jE,jF])|(with_reducible refine bM ?_))
 obtain⟨I,hI⟩:∃I:Nat×V→Hp→Nat→Prop,∀i u h4 nx4,I (i,u) h4 nx4↔(i≤L.length∧nx≤nx4∧((cF L=[]∧u= .sl k .nil []∧h4=h2)∨(cF L≠ []∧∃id es,nx≤id∧id<nx4∧u= .rs id k 0 (cF (L.take i)).length∧(cF (L.take i)=[]∨es=cF (L.take i))∧h4 id=some (.arr k es)∧h2.le (h4.del id)))):=⟨fun p h4 nx4=>p.1≤L.length∧nx≤nx4∧((cF L=[]∧p.2= .sl k .nil []∧h4=h2)∨(cF L≠ []∧∃id es,nx≤id∧id<nx4∧p.2= .rs id k 0 (cF (L.take p.1)).length∧(cF (L.take p.1)=[]∨es=cF (L.take p.1))∧h4 id=some (.arr k es)∧h2.le (h4.del id))),fun _ _ _ _=>Iff.rfl⟩;simp only at aE7 hv;have e0:cF ([]:List (Own×List V))=[]:=rfl;have aAc:∀n,nx≤n→h2 n=none:=fun n hn=>aV.none hd hn;refine aP (fun p:Nat×V=>aD 36 0 [(6,p.2),(25, .sl .leaf own (L.map fun p=> .sl k p.1 p.2)),(26, .int .i64 L.length),(27, .int .i64 p.1)]) I (fun p=>L.length-p.1) (0,v) ((hI _ _ _ _).2 ⟨Ko _,(by show nx≤nx3;omega),?_⟩) ?_ ?_
 ·rcases hv with⟨q1,rfl,rfl⟩|⟨q1,id,es,q2,rfl,rfl⟩
  ·exact .inl ⟨KM.1 q1,rfl,rfl⟩
  refine .inr ⟨fun e=>by rw[e] at q1;simp at q1,id,es,or,aGu id (.arr k es) (by simp[Kb]),?_, .inl rfl,by simp[Kb],kK (gH (Ka _) (aAc id or) _) (aAc id or)⟩;simp[cF]
 ·simp only[WkL,aD,jH,jI,jJ,jK,go_sem,reduceIte,jA,jB,jC,jD,reduceCtorEq,jE,jF]
 rintro⟨i,u⟩ h4 nx4 hii;generalize hQ2:bB _ _ _ _ _=Q2;obtain⟨q1,q2,q3⟩:=(hI _ _ _ _).1 hii;refine Zk ?_;repeat (first|with_reducible refine bK ?_|with_reducible refine bF ?_|with_reducible refine bY ?_|with_reducible refine aY ?_|with_reducible refine aT ?_|with_reducible refine bS ?_|(refine bZ rfl (by simp only[ go_sem,reduceIte,jA,jB,jC,jD,reduceCtorEq,jE,jF];try omega) ?_;simp only[ go_sem,reduceIte,jA,jB,jC,jD,reduceCtorEq,jE,jF])|(with_reducible refine bM ?_))
 refine cU _ rfl (fun hc4=>?_) (fun hc4=>?_)
 ·have hlt:i<L.length:=by have:=of_decide_eq_true hc4;omega
  have hg:=aO (fun p:Own×List V=>V.sl k p.1 p.2) L i hlt;have hlen:(i:Int)<((L.map fun p=>V.sl k p.1 p.2).length:Int):=by simp;omega
  have aBf:=yZ L i hlt;have h1:=g7 L (i+1);have h2':=congrArg Qq aBf;rw[Ky] at h2';have hw:IntKind.i64.wrap ((i:Int)+1)=((i+1:Nat):Int):=by rw[fI]<;>omega
  repeat (first|with_reducible refine bK ?_|with_reducible refine bF ?_|with_reducible refine bY ?_|with_reducible refine aY ?_|with_reducible refine aT ?_|with_reducible refine bS ?_|with_reducible refine bM ?_)
  refine bZ rfl (by simp only[hg,hlen,hlt,jG,jK,go_sem,reduceIte,jA,jB,jC,jD,reduceCtorEq,jE,jF];try omega) ?_;simp only[hg,hlen,hlt,jG,jK,go_sem,reduceIte,jA,jB,jC,jD,reduceCtorEq,jE,jF];repeat (first|with_reducible refine bK ?_|with_reducible refine bF ?_|with_reducible refine bY ?_|with_reducible refine aY ?_|with_reducible refine aT ?_|with_reducible refine bS ?_|with_reducible refine bM ?_)
  rcases q3 with⟨q4,rfl,rfl⟩|⟨q4,id,es,q5,q6,rfl,q7,q8,q9⟩
  ·have hy:L[i].2=[]:=by
    rw[q4] at h1;exact KM.1 (by simp at h1;rw[h1] at h2';simp at h2';omega)
   refine bZ rfl (by simp only[hy,go_sem,reduceIte,jA,jB,jC,jD,reduceCtorEq,jE,jF];try omega) ?_;simp only[hy,go_sem,reduceIte,jA,jB,jC,jD,reduceCtorEq,jE,jF];rw[←hQ2];repeat (first|with_reducible refine bK ?_|with_reducible refine bF ?_|with_reducible refine bY ?_|with_reducible refine aY ?_|with_reducible refine aT ?_|with_reducible refine bS ?_|with_reducible refine bM ?_)
   refine bZ rfl (by simp only[hw,go_sem,reduceIte,jA,jB,jC,jD,reduceCtorEq,jE,jF];try omega) ?_;simp only[hw,go_sem,reduceIte,jA,jB,jC,jD,reduceCtorEq,jE,jF];repeat (first|with_reducible refine bK ?_|with_reducible refine bF ?_|with_reducible refine bY ?_|with_reducible refine aY ?_|with_reducible refine aT ?_|with_reducible refine bS ?_|with_reducible refine bM ?_)
   refine aG (i+1, .sl k .nil []) (by(try simp only);omega) ((hI _ _ _ _).2 ⟨or,by(try simp only[go_sem,reduceIte,jA,jB,jC,jD,reduceCtorEq,jE,jF]);omega, .inl ⟨q4,rfl,rfl⟩⟩) ?_;simp only[WkL,aD,jH,jI,jJ,hw,go_sem,reduceIte,jA,jB,jC,jD,reduceCtorEq,jE,jF]
  refine qO 2 rfl (by simp only[go_sem,reduceIte,jA,jB,jC,jD,reduceCtorEq,jE,jF]) ?_;refine Zn ?_;by_cases hy:L[i].2=[]
  ·refine rA rfl q8 (by simp only[dB,hy,go_sem,reduceIte,jA,jB,jC,jD,reduceCtorEq,jE,jF]) ?_;refine bZ rfl (by simp only[ go_sem,reduceIte,jA,jB,jC,jD,reduceCtorEq,jE,jF];try omega) ?_;refine Zn ?_;rw[←hQ2];repeat (first|with_reducible refine bK ?_|with_reducible refine bF ?_|with_reducible refine bY ?_|with_reducible refine aY ?_|with_reducible refine aT ?_|with_reducible refine bS ?_|with_reducible refine bM ?_)
   refine bZ rfl (by simp only[hw,go_sem,reduceIte,jA,jB,jC,jD,reduceCtorEq,jE,jF];try omega) ?_;simp only[hw,go_sem,reduceIte,jA,jB,jC,jD,reduceCtorEq,jE,jF];repeat (first|with_reducible refine bK ?_|with_reducible refine bF ?_|with_reducible refine bY ?_|with_reducible refine aY ?_|with_reducible refine aT ?_|with_reducible refine bS ?_|with_reducible refine bM ?_)
   have aA5:cF (L.take (i+1))=cF (L.take i):=by rw[aBf,hy,KO]
   refine aG (i+1, .rs id k 0 (cF (L.take i)).length) (by(try simp only);omega) ((hI _ _ _ _).2 ⟨or,by(try simp only[go_sem,reduceIte,jA,jB,jC,jD,reduceCtorEq,jE,jF]);omega, .inr ⟨q4,id,es,q5,by(try simp only[go_sem,reduceIte,jA,jB,jC,jD,reduceCtorEq,jE,jF]);omega,by rw[aA5],by rw[aA5];exact q7,q8,q9⟩⟩) ?_;simp only[WkL,aD,jH,jI,jJ,hw,go_sem,reduceIte,jA,jB,jC,jD,reduceCtorEq,jE,jF]
  have aO8:es.take (cF (L.take i)).length=cF (L.take i):=by
   rcases q7 with q7|q7
   ·rw[q7];rfl
   rw[q7,Kt]
  have hcl:(cF (L.take i)).length≤es.length:=by
   rcases q7 with q7|q7
   ·rw[q7];exact Ko _
   rw[q7];exact Kj _
  refine xU rfl q8 hcl (by simp only[dB,go_sem,reduceIte,jA,jB,jC,jD,reduceCtorEq,jE,jF]) hy (qY or hbs) ?_;refine bZ rfl (by simp only[ go_sem,reduceIte,jA,jB,jC,jD,reduceCtorEq,jE,jF];try omega) ?_;refine Zn ?_;rw[←hQ2];repeat (first|with_reducible refine bK ?_|with_reducible refine bF ?_|with_reducible refine bY ?_|with_reducible refine aY ?_|with_reducible refine aT ?_|with_reducible refine bS ?_|with_reducible refine bM ?_)
  refine bZ rfl (by simp only[hw,go_sem,reduceIte,jA,jB,jC,jD,reduceCtorEq,jE,jF];try omega) ?_;simp only[hw,go_sem,reduceIte,jA,jB,jC,jD,reduceCtorEq,jE,jF];repeat (first|with_reducible refine bK ?_|with_reducible refine bF ?_|with_reducible refine bY ?_|with_reducible refine aY ?_|with_reducible refine aT ?_|with_reducible refine bS ?_|with_reducible refine bM ?_)
  refine aG (i+1, .rs nx4 k 0 ((cF (L.take i)).length+L[i].2.length)) (by(try simp only);omega) ((hI _ _ _ _).2 ⟨or,by(try simp only[go_sem,reduceIte,jA,jB,jC,jD,reduceCtorEq,jE,jF]);omega, .inr ⟨q4,nx4,cF (L.take (i+1)),q2,by(try simp only[go_sem,reduceIte,jA,jB,jC,jD,reduceCtorEq,jE,jF]);omega,by rw[h2'], .inr rfl,?_,?_⟩⟩) ?_
  ·simp only[aO8,aBf,go_sem,reduceIte,jA,jB,jC,jD,reduceCtorEq,jE,jF]
  ·try simp only[go_sem,reduceIte,jA,jB,jC,jD,reduceCtorEq,jE,jF]
   intro m b e;have h5:=q9 m b e;have h6:=hd m b e;simp only[Hp.aAM,Hp.aAp] at h5⊢;split at h5
   ·cases h5
   rename_i hne;rw[if_neg or,if_neg or,if_neg hne];exact h5
  simp only[WkL,aD,jH,jI,jJ,hw,go_sem,reduceIte,jA,jB,jC,jD,reduceCtorEq,jE,jF]
 have aUy:i=L.length:=by have:=of_decide_eq_false hc4;omega
 rw[←hQ2];refine pL ?_;repeat (first|with_reducible refine kZ ?_|with_reducible refine jX ?_|with_reducible refine gT ?_|with_reducible refine cD ZM ?_|with_reducible refine fV ?_|with_reducible refine aY ?_)
 repeat (first|with_reducible refine bK ?_|with_reducible refine bF ?_|with_reducible refine bY ?_|with_reducible refine aY ?_|with_reducible refine aT ?_|with_reducible refine bS ?_|(refine bZ rfl (by simp only[ go_sem,reduceIte,jA,jB,jC,jD,reduceCtorEq,jE,jF];try omega) ?_;simp only[ go_sem,reduceIte,jA,jB,jC,jD,reduceCtorEq,jE,jF])|(with_reducible refine bM ?_))
 have hT2:cF (L.take i)=cF L:=by rw[aUy,Kt]
 rw[hT2] at q3;rcases q3 with⟨q4,rfl,rfl⟩|⟨q4,id,es,q5,q6,rfl,q7,q8,q9⟩
 ·exact dE (aC _ (Ka _) (.inl ⟨q4,rfl,rfl⟩))
 refine dE (aC (h2.set id (.arr k (cF L))) ?_ (.inr ⟨q4,id,q5,rfl,rfl⟩));have hes:es=cF L:=q7.resolve_left q4;subst hes;refine vW ?_ q8;intro m b e;have h5:=q9 m b e;simp only[Hp.aAp] at h5;split at h5
 ·cases h5
 exact h5
end
end Go.Proofs.YtlhedpgobaellaaGreatDoor
namespace Go.Proofs.YtlhedpgobaellaaGreatDoor
open Go.RowKit Go.Sort
attribute [local irreducible] Kw
theorem tK{P:Program}{f:FuncId}{args:List V}{h:Hp}{v:V}(hv:∀L,bQ L args→v.names L)(hc:∀h' nx,h.has h'→aR P f args h' nx fun v' h'' _=>v'=v∧h''=h'):aL P f args h v:=by
 intro h' nx hh;have c:=hc h' nx hh;refine⟨c.1,fun K cargs hlv hrel aBs=>(c.2 K cargs hlv hrel aBs).mono ?_⟩;rintro e w' ⟨K',v',cv,h'',nx',rfl,he,hle,hvr,aCF,aGO,hnx,rfl,rfl⟩;have aCR:K.le (K'.only fun n=>K'.live n∧n<nx):=⟨fun n hn=>⟨hle.live n hn,hlv n hn⟩,hle.mu,hle.tp,hle.fro,hle.imm,hle.cell,hle.shape,hle.below⟩;have hna:bQ (fun n=>K'.live n∧n<nx) args:=dY fun i hi=>eS (fun m hm=>⟨hle.live m hm,hlv m hm⟩) (aBs.2 i hi).names;exact⟨K'.only fun n=>K'.live n∧n<nx,v',cv,h'',nx,rfl,he,aCR,hvr.only _ (hv _ hna),hrel.back aCF aCR.toV (fun n hn=>⟨hle.live n hn,hlv n hn⟩),fun n hn=>⟨hn.2,(aGO n hn.1).2⟩,Kj _,rfl,rfl,rfl⟩
theorem aR.wk{P:Program}{f:FuncId}{args:List V}{h h2:Hp}{nx:Nat}{R:V→Hp→Nat→Prop}(c:aR P f args h nx R)(hle:h.le h2):aR P f args h2 nx R:=⟨c.1,fun K cargs hl hrel hv=>c.2 K cargs hl (hrel.weaken hle) hv⟩
theorem wZ{yn:Nat}{J:Nat→Hp→Nat→Prop}{D:Hp→Nat→Prop}{xs:List (List V)}
 (hJ:∀i h nx nx',J i h nx→nx≤nx'→J i h nx') (hD:∀h nx nx',D h nx→nx≤nx'→D h nx')
 (hy:∀i (hi:i<xs.length) h nx,J i h nx→aV h nx→dF Tryz.prog yn xs[i] h nx fun v h' nx'=>(v= .bool true∧J (i+1) h' nx')∨(v= .bool false∧D h' nx')):
 ∀(n:Nat) (e:Ex),SizeOf.sizeOf e≤n→(∃m,dt m e=true)→∀i,(∀j (hj:j<e.ts.length),xs[i+j]?=some [e.ts[j].v])→∀h nx,J i h nx→aV h nx→
  aR Tryz.prog 238 [e.v, .yld yn] h nx fun v h' nx'=>(v= .bool true∧J (i+e.ts.length) h' nx')∨(v= .bool false∧D h' nx')
 |0, .mk op t o ks,hn,_,_,_,_,_,_,_=>by simp at hn
 |n+1, .mk op t o ks,hn,⟨m,hm⟩,i,hx,h,nx,hj,hdm=>by
  refine aB L.aT7 fun hd=>?_;rw[Kc];refine ZK ?_;have k0:=kl0 ks;cases ks with
  |nil=>
   have hx0:=hx 0 (by simp[Kd]);have e0:(Ex.mk op t o []).ts=[t]:=by simp[Kd]
   have hi:i<xs.length:=by
    rcases Kp i xs.length with h1|h1
    ·exact h1
    rw[KX,List.getElem?_eq_none h1] at hx0;cases hx0
   have hxi:xs[i]=[t.v]:=by
    rw[KX,KB hi] at hx0;simpa [e0] using hx0
   have Y:=hy i hi h (nx+1) (hJ _ _ _ _ hj or) (hdm.up or);rw[hxi] at Y;have k1:(((0:Nat):Int)==0)=true:=rfl;refine aue (e6 Ex.cs.eq_1 Ex.op.eq_1 Ex.t.eq_1 Ex.o.eq_1 Ex.kids.eq_1 k1) ?_;refine lU rfl ((Y.weaken (leo hdm)).mono ?_);rintro v h' nx' hle (⟨rfl,hv⟩|⟨rfl,hv⟩)
   ·unfold bT;refine Zn ?_;refine au ?_;refine aC h' (Ka _) (.inl ⟨rfl,?_⟩);rw[e0];exact hv
   unfold bT;refine Zn ?_;refine au ?_;exact aC h' (Ka _) (.inr ⟨rfl,hv⟩)
  |cons k r=>
   obtain⟨ks,hks⟩:∃ks,ks=k::r:=⟨_,rfl⟩;have hne:ks≠ []:=by rw[hks];simp
   have k1:((ks.length:Int)==0)=false:=by cases ks with|nil=>exact absurd rfl hne|cons a b=>exact bqf (by simp only[jL];omega)
   have e0:(Ex.mk op t o (k::r)).ts=ks.flatMap Kd:=by rw[Ex.aGT,if_neg (by simp[Kh]),hks];rfl
   rw[←hks] at hn hm⊢;obtain⟨hk2,hkr⟩:=Bf hm;rw[e0] at hx;rw[←hks] at e0;rw[e0];have hsz:∀e∈ks,SizeOf.sizeOf e≤n:=fun e he=>by
    have:=KQ he;simp only[Ex.mk.sizeOf_spec] at hn;omega
   refine aue (e7 Ex.cs.eq_1 Ex.op.eq_1 Ex.t.eq_1 Ex.o.eq_1 Ex.kids.eq_1 k1 (@jK Ex V)) ?_
   refine aP (fun q:Nat=>aD 27 0 [(1, .yld yn),(16, .sl (.agg 6) o (ks.map Ex.v)),(17, .int .i64 ks.length),(18, .int .i64 q)])
    (fun q hp nx1=>q≤ks.length∧aV hp nx1∧∃hq,J (i+((ks.take q).flatMap Kd).length) hq nx1∧hq.le hp)
    (fun q=>ks.length-q) 0 ⟨Ko _,by exact dmo hdm,h,hJ _ _ _ _ hj Zw,leo hdm⟩ (by simp only[WkL,aD,jH,jI,jJ,jK,go_sem,reduceIte,jA,jB,jC,jD,reduceCtorEq,jE,jF]) ?_
   rintro q hp nx1 ⟨hq,aU1,hq0,hj1,hle1⟩;generalize hQ:bB _ _ _ _ _=Q0;refine Zk ?_;rcases Kp q ks.length with hlt|hge
   ·have hc:decide ((q:Int)<(ks.length:Int))=true:=dct;have hg:=aO Ex.v ks q hlt;have hw:IntKind.i64.wrap ((q:Int)+1)=((q+1:Nat):Int):=wrp;have hf:=Ki ks[q];have htk:(ks.take (q+1)).flatMap Kd=(ks.take q).flatMap Kd++ks[q].ts:=by rw[Kg hlt,KE];simp
    have aAZ:ks.flatMap Kd=(ks.take q).flatMap Kd++(ks[q].ts++(ks.drop (q+1)).flatMap Kd):=by
     conv=>lhs;rw[←KP q ks,Ks hlt]
     rw[KE,List.flatMap_cons]
    have aUw:=wZ hJ hD hy n ks[q] (hsz _ (Ku _)) (hkr _ (Ku _)) (i+((ks.take q).flatMap Kd).length) (fun j hj=>by
     have h2:=hx (((ks.take q).flatMap Kd).length+j) (by rw[aAZ];simp only[Ky];omega);rw[Qo,h2];have e3:(ks.flatMap Kd)[((ks.take q).flatMap Kd).length+j]'(by rw[aAZ];simp only[Ky];omega)=ks[q].ts[j]:=by
      simp only[aAZ];rw[KD or,KG or];congr 1;omega
     rw[e3])
    obtain⟨e,he⟩:∃e,ks[q]=e:=⟨_,rfl⟩;rw[he] at hg hf aUw htk;refine aue (e6 hc hg hlt hf (@jK Ex V) jG) ?_;refine aU (((aUw hq0 (nx1+2) (hJ _ _ _ _ hj1 or) ((aU1.le hle1).up or)).wk (Hp.le_trans hle1 (leo aU1))).dom.mono ?_);rintro v h2 nx2 aAV ⟨hv,aGP,_⟩;rcases hv with⟨rfl,hv⟩|⟨rfl,hv⟩
    ·unfold bT;refine Zn ?_;refine aue hw ?_;rw[←hQ];refine aG (q+1) or ⟨hlt,aGP,h2,?_,Ka _⟩ (by simp only[WkL,aD,jH,jI,jJ,go_sem,reduceIte,jA,jB,jC,jD,reduceCtorEq,jE,jF]);rw[htk,Ky,←Qo];exact hv
    unfold bT;refine Zn ?_;refine au ?_;rw[←hQ];refine au ?_;exact aC h2 (Ka _) (.inr ⟨rfl,hv⟩)
   have hc:decide ((q:Int)<(ks.length:Int))=false:=dcf;refine aue hc ?_;rw[←hQ];refine au ?_;rw[Kv or] at hj1;exact aC hq0 hle1 (.inl ⟨rfl,hj1⟩)
theorem Dx(e:Ex)(he:sq e=true):s9 Tryz.prog 237 [.ept (.agg 6) [e.v] 0 0] Kx (e.ts.map fun t=>[t.v]):=by
 intro yn J D h1 h2 h3 h4 h nx hj hdm;refine aB L.aT8 fun hd=>?_;obtain⟨ev,hev⟩:∃ev,e.v=ev:=⟨_,rfl⟩;have hf:=Ki e;have c:=wZ h2 h3 h4 _ e (Kj _) ⟨20,he⟩ 0 (fun j hj=>by simp[KB hj]) h nx hj hdm;rw[hev] at hf c⊢;refine ZK ?_;refine aue hf ?_;refine aU (c.mono ?_);rintro v h' nx' hle (⟨rfl,hv⟩|⟨rfl,hv⟩)
 ·unfold bT;refine Zn ?_;refine au ?_;refine⟨h',Ka _, .inl ?_⟩;simp only[jK];rw[KW] at hv;exact hv
 unfold bT;refine Zn ?_;refine au ?_;exact⟨h',Ka _, .inr hv⟩
theorem sQ(e:Ex)(h:Hp):aL Tryz.prog 192 [e.v] h (.fn (.func 237) [] [.ept (.agg 6) [e.v] 0 0]):=by
 have hf:=Ki e;refine tK (fun L hL=>by simpa [V.names,bQ] using hL) fun h' nx hh=>aB L.aWh fun hd=>?_;obtain⟨ev,hev⟩:∃ev,e.v=ev:=⟨_,rfl⟩;rw[hev] at hf⊢;refine ZK ?_;refine bK ?_;generalize hR:mT _ _=R;refine aue hf ?_;rw[←hR];refine dO (lE (t:=1) (n:=nx) (k:= .agg 6) (i:=0) (o:=0) (es:=[ev]) rfl (by simp only[go_sem,reduceIte,jA,jB,jC,jD,reduceCtorEq,jE,jF])) ?_;refine Zn ?_;refine au ?_;refine aC h' (fun m b e=>?_) ⟨rfl,rfl⟩;have:=hd _ _ e;simp only[Kf,Kb];rw[if_neg or,if_neg or];exact e
theorem DY:aE Tryz.prog 191=some (LB.Collect (.agg 4) 236):=Zz
theorem D8:aE Tryz.prog 236=some (LB.aBI (.agg 4) (.agg [.str ⟨#[]⟩, .int .i64 0, .int .i64 0, .str ⟨#[]⟩]) 48):=Zz
theorem D7:aE Tryz.prog 190=some (LB.Concat (.agg 4) 48 9 235):=Zz
theorem DX:aE Tryz.prog 235=some (LB.Grow (.agg 4) (.agg [.str ⟨#[]⟩, .int .i64 0, .int .i64 0, .str ⟨#[]⟩]) 48 9):=Zz
theorem pF{P:Program}{f:FuncId}{args:List V}{h:Hp}{k:Sh}{es:List V}(hn:∀L,bQ L es)(c:∀h' nx,h.has h'→aR P f args h' nx fun v h'' _=>nf nx h' k es v h''):aL P f args h (lst k es):=by
 refine fE (fun L=>lA hn L) fun h' nx hh=>?_;have c2:=aR.aF9 (k:=k) (G:=fun es'=>es'=es) ((c h' nx hh).mono fun v h'' _ _ hv=>⟨_,rfl,hv⟩);refine⟨c2.1,fun K cargs hlv hr hv=>((c2.mono (R':=fun v' h'' _=>v'.loose=lst k es∧h'.le h'') ?_).2 K cargs hlv hr hv)⟩;rintro v h'' nx' hnx ⟨es',rfl,hf⟩;exact⟨hf.loose,hf.le (fun m b hm=>hlv m (hr.lt m b hm))⟩
theorem oK(e:Ex)(he:sq e=true)(h:Hp):aL Tryz.prog 191 [.fn (.func 237) [] [.ept (.agg 6) [e.v] 0 0]] h (lst (.agg 4) (e.ts.map Tr.v)):=by
 refine pF (fun L=>cK (Tr.aAN L) _) fun h' nx hh=>?_;have hl:=mO he;refine(r9 Tr.v Tr.aAD DY D8 rfl or _ _ Kx e.ts (Dx e he) or h' nx (bA _)).mono ?_;rintro v h'' nx' _ (⟨h1,h2,h3⟩|⟨h1,id,h2,h3,h4⟩)
 ·rw[h1];exact .inl ⟨rfl,h2,h3⟩
 exact .inr ⟨by simpa using h1,id,h2,by rw[h3,jK],h4⟩
theorem nh(own o1 o2 o3:Own)(a b c:List Tr)(hl:a.length+b.length+c.length≤10000000)(h:Hp):aL Tryz.prog 190 [.sl .leaf own [trs o1 a,trs o2 b,trs o3 c]] h (lst (.agg 4) ((a++(b++c)).map Tr.v)):=by
 refine pF (fun L=>cK (Tr.aAN L) _) fun h' nx hh=>?_;have hT:cF [(o1,a.map Tr.v),(o2,b.map Tr.v),(o3,c.map Tr.v)]=(a++(b++c)).map Tr.v:=by simp[cF]
 have c:=mr D7 DX or own [(o1,a.map Tr.v),(o2,b.map Tr.v),(o3,c.map Tr.v)] Zm (by rw[hT];simp;omega) h' nx;exact c.mono fun v h'' _ _ hv=>by rw[hT] at hv;exact hv
end Go.Proofs.YtlhedpgobaellaaGreatDoor
namespace Go.Proofs.YtlhedpgobaellaaGreatDoor
open Go.RowKit Go.Sort
attribute [local irreducible] Kw
namespace LB
end LB
section
variable{P:Program}{α:Type} [DecidableEq α] [Inhabited α](e:α→V){k:Sh}{z:V}{q:yB}
end
namespace LB
end LB
theorem Cz{hc h:Hp}{n:Nat}(hh:Km hc h)(hn:hc n=none)(b:Blk):Km hc (h.set n b):=fun m k e hb=>by
 unfold Kb;rw[if_neg (fun e2=>by rw[e2,hn] at e;cases e)];exact hh m k e hb
section
variable{P:Program}{α:Type} [Inhabited α](e:α→V){k:Sh}{z:V}
theorem uU{f:Nat}(hfit:∀x,(e x).fits k=true)(hL:aE P f=some (LB.aAU k))(p:α→Bool)(n:Nat)(l:List α)(g:Nat)(caps:List V)(h:Hp)(hn:h n=some (.arr k (l.map e)))(hp:∀x∈l,aL P g ([e x]++caps) h (.bool (p x)))(hl:l.length≤1000000000):
 aL P f [.rs n k 0 l.length, .fn (.func g) [] caps] h (.int .i64 (bG p l)):=by
 refine aI (fun L=>trivial) fun h' nx hh=>aB hL fun hd=>?_;have hn':=hh n _ hn rfl;refine ZK ?_;refine au ?_;refine aP (fun i:Nat=>aD 19 0 [(0, .rs n k 0 l.length),(1, .fn (.func g) [] caps),(7, .int .i64 l.length),(8, .int .i64 i)]) (fun i hp2 _=>i≤l.length∧hp2=h'∧∀x∈l.take i,p x=false) (fun i=>l.length-i) 0 ⟨Ko _,rfl,Zm⟩ ?_ ?_
 ·simp only[WkL,aD,jH,jI,jJ,go_sem,reduceIte,jA,jB,jC,jD,reduceCtorEq,jE,jF]
 rintro i hp2 nx1 ⟨hi,rfl,hno⟩;generalize hQ:bB _ _ _ _ _=Q0;refine Zk ?_;rcases Kp i l.length with hlt|hge
 ·have hc:decide ((i:Int)<(l.length:Int))=true:=decide_eq_true or;have hg:=aO e l i hlt;have hw:IntKind.i64.wrap ((i:Int)+1)=((i+1:Nat):Int):=by rw[fI]<;>omega
  have htk:l.take (i+1)=l.take i++[l[i]]:=Kg hlt
  (repeat' (first|(with_reducible first|refine stp ?_|refine cD ZM ?_|refine vH (fun _=>?_) (fun _=>?_))|((first|(with_reducible refine mJ ?_;first|refine kB rfl ?_ ?_|refine cM rfl (hp l[i] (Ku _)) (by simp only[go_sem,reduceIte,jA,jB,jC,jD,reduceCtorEq,jE,jF]) hh ?_|refine Zx ?_)|(with_reducible refine mL ?_;first|refine kF rfl ?_ ?_|refine ZX ?_)|refine Zy ?_)<;>try simp only[hc,hg,hw,hlt,hn',hfit,jK,jG,jQ,go_sem,reduceIte,jA,jB,jC,jD,reduceCtorEq,jE,jF])|refine ZY ?_|omega))
  ·rename_i hx;rw[←hQ];refine au ?_;refine aC hp2 (Ka _) ⟨?_,rfl⟩;refine Zn ?_;rw[bG,(Kz (p:=p) (xs:=l) (i:=i)).2 ⟨hlt,hx,fun j hj=>by simp[hno l[j] (KF.2 ⟨j,or,rfl⟩)]⟩]
  rename_i hx;rw[←hQ];refine aG (i+1) or ⟨hlt,rfl,fun x hx2=>?_⟩ ?_
  ·rw[htk] at hx2;rcases KN.1 hx2 with h1|h1
   ·exact hno x h1
   simp at h1;rw[h1];exact hx
  simp only[WkL,aD,jH,jI,jJ,go_sem,reduceIte,jA,jB,jC,jD,reduceCtorEq,jE,jF]
 have hc:decide ((i:Int)<(l.length:Int))=false:=decide_eq_false or;refine aue hc ?_;rw[←hQ];refine au ?_;refine aC hp2 (Ka _) ⟨?_,rfl⟩;refine Zn ?_;rw[show i=l.length by omega,Kt] at hno;rw[bG,KA.2 (fun x hx=>by simp[hno x hx])]
theorem rg(p:α→Bool)(l:List α):((bG p l==-1)=true↔∀x∈l,p x=false)∧∀i:Nat,bG p l=i→∃h:i<l.length,p l[i]=true∧∀x∈l.take i,p x=false:=by
 unfold bG;cases hf:l.findIdx? p with
 |none=>
  have:=KA.1 hf;refine⟨by simpa using this,fun i hi=>?_⟩;exact absurd hi (by simp only;omega)
 |some j=>
  obtain⟨h1,h2,h3⟩:=Kz.1 hf;refine⟨⟨fun h=>?_,fun h=>?_⟩,fun i hi=>?_⟩
  ·exfalso;simp at h<;>omega
  ·have:=h l[j] (Ku _);rw[this] at h2;cases h2
  have:j=i:=by simp only at hi;omega
  subst this;refine⟨h1,h2,fun x hx=>?_⟩;obtain⟨q,hq,rfl⟩:=KF.1 hx;have:=h3 q or;simpa using this
end
theorem aun{G B p:Prop}(E:p)(k:B)(h:p→PLift B→G:=by
 intro E k
 (repeat' (first|(with_reducible first|refine stp ?_|refine cD (by decide) ?_)|((first|(with_reducible refine mJ ?_;first|refine kB rfl ?_ ?_|refine aJ (C1 _) rfl (aH _) ?_|refine aJ (C2 _) rfl (aH _) ?_|refine aJ (C3 _) rfl (aH _) ?_|refine aJ (C4 _) rfl (aH _) ?_|refine aJ C5 rfl (aH _) ?_|refine aJ C6 rfl (aH _) ?_|(first|refine eI rfl ?_|refine eJ rfl ?_)|refine dH rfl ?_)|(with_reducible refine mL ?_;first|refine kF rfl ?_ ?_|refine bC (D1 _) rfl (bA _) ?_|refine bC (D2 _) rfl (bA _) ?_|refine bC (D3 _) rfl (bA _) ?_|refine bC (D4 _) rfl (bA _) ?_|refine bC (D5 _) rfl (bA _) ?_|refine bC (D6 _) rfl (bA _) ?_|refine cm rfl rfl (by decide) (by(simp only[dR,go_sem,reduceIte,jA,jB,jC,jD,reduceCtorEq,jE,jF])<;>try omega) (by simp only[go_sem,reduceIte,jA,jB,jC,jD,reduceCtorEq,jE,jF]) (by simp only[go_sem,reduceIte,jA,jB,jC,jD,reduceCtorEq,jE,jF]) (by simp only[E,go_sem,reduceIte,jA,jB,jC,jD,reduceCtorEq,jE,jF]) ?_|(first|refine eK rfl ?_|refine eL rfl ?_)|refine dI rfl ?_|refine fT (gX ?_)|refine fT (kE ?_))|(with_reducible refine mM ?_;refine gU rfl ?_))<;>try simp only[E,jK,go_sem,reduceIte,jA,jB,jC,jD,reduceCtorEq,jE,jF])|(with_reducible refine oG ?_;refine jZ rfl ?_)|omega))
 exact k.down):G:=h E ⟨k⟩
def OwL(h:Hp)(n0:Nat)(k:Sh)(es:List V)(v:V):Prop:=(es=[]∧v= .sl k .nil [])∨(es≠ []∧∃id,n0≤id∧v= .rs id k 0 es.length∧h id=some (.arr k es))
theorem OwL.le{h h':Hp}{n0:Nat}{k:Sh}{es:List V}{v:V}(o:OwL h n0 k es v)(hle:h.le h'):OwL h' n0 k es v:=o.imp id fun⟨a,i,b,c,d⟩=>⟨a,i,b,c,hle _ _ d⟩
theorem AN(n:Nat)(l:List ByteArray)(hl:l.length≤1000000000)(x:ByteArray)(h:Hp)(hn:h n=some (.arr .leaf (l.map V.str))):aL Tryz.prog 125 [.rs n .leaf 0 l.length, .str x] h (.int .i64 (bG (fun y=>decide (x=y)) l)):=by
 refine aI (fun L=>trivial) fun h' nx hh=>aB L.aRT fun hd=>?_;refine ZK ?_;have hn1:=hh _ _ hn rfl;have hn2:n<nx:=hd _ _ hn1;refine aue trivial ?_;refine aP (fun i:Nat=>aD 19 0 [(0, .rs n .leaf 0 l.length),(1, .str x),(7, .int .i64 l.length),(8, .int .i64 i)]) (fun i hp nx1=>i≤l.length∧hp=h'∧∀y∈l.take i,decide (x=y)=false) (fun i=>l.length-i) 0 ⟨Ko _,rfl,Zm⟩ (by simp only[WkL,aD,jH,jI,jJ,go_sem,reduceIte,jA,jB,jC,jD,reduceCtorEq,jE,jF]) ?_;rintro i hp nx1 ⟨hi,rfl,hno⟩;generalize hQ:bB _ _ _ _ _=Q0;refine Zk ?_;rcases Kp i l.length with hlt|hge
 ·have hc:decide ((i:Int)<(l.length:Int))=true:=dct;have hg:=aO V.str l i hlt;have hw:IntKind.i64.wrap ((i:Int)+1)=((i+1:Nat):Int):=wrp;have hbe:=dS x l[i];have z0:0+i=i:=KW _;cases k:decide (x=l[i]) with
  |true=>
   rw[k] at hbe;refine aue (e8 hc hg hbe hlt (jG i) hn1 z0 (@jK ByteArray V)) ?_;rw[←hQ];refine au ?_;have:l.findIdx? (fun y=>decide (x=y))=some i:=by
    rw[Kz];refine⟨hlt,k,fun j hj=>?_⟩;have:=hno l[j] (KF.2 ⟨j,or,rfl⟩);simp[this]
   exact aC hp (leo hd) ⟨by simp only[bG,this];rfl,rfl⟩
  |false=>
   rw[k] at hbe;refine aue (e9 hc hg hbe hlt (jG i) hw hn1 z0 (@jK ByteArray V)) ?_;rw[←hQ];refine aG (i+1) or ⟨or,rfl,fun y hy=>?_⟩ (by simp only[WkL,aD,jH,jI,jJ,go_sem,reduceIte,jA,jB,jC,jD,reduceCtorEq,jE,jF]);rw[Kg hlt,KN,List.mem_singleton] at hy;rcases hy with hy|rfl
   ·exact hno y hy
   exact k
 have hc:decide ((i:Int)<(l.length:Int))=false:=dcf;refine aue hc ?_;rw[←hQ];refine au ?_;have hi':i=l.length:=or;rw[hi',Kt] at hno;have:l.findIdx? (fun y=>decide (x=y))=none:=by
  rw[KA];exact fun y hy=>hno y hy
 exact aC hp (leo hd) ⟨by simp only[bG,this];rfl,rfl⟩
theorem fm{h:Hp}{n0:Nat}{l:List ByteArray}{v:V}(hv:OwL h n0 .leaf (l.map V.str) v)(hl:l.length≤1000000000)(x:ByteArray):aL Tryz.prog 76 [v, .str x] h (.bool (hZ x l)):=by
 rcases hv with⟨h1,rfl⟩|⟨h1,id,h2,rfl,h3⟩
 ·have:l=[]:=by simpa using h1
  subst this;exact pX .nil [] Zm x h
 refine aI (fun L=>trivial) fun h' nx hh=>aB L.aVM fun hd=>?_;have C5:=AN id l hl x h' (hh _ _ h3 rfl);simp only[jK,jL,jM,jA,jB,jN,jO,jP,jQ,V.undef];refine au ?_;exact aC h' (leo hd) ⟨by unfold hZ;rw[←mK];rfl,rfl⟩
theorem wA(o:Own)(ts:List Tr)(ht:ts.length≤100000000)(l:List ByteArray)(hl:l.length≤100000000)(v0:V)(h:Hp)(nx n0:Nat)(hn0:n0≤nx)(hv0:OwL h n0 .leaf (l.map V.str) v0):
 aR Tryz.prog 123 [v0,trs o ts] h nx fun v h' nx'=>OwL h' n0 .leaf ((nmL l ts).map V.str) v∧Ke n0 h h':=by
 refine aB L.aXX fun hd=>?_;refine ZK ?_;refine aue (e2 trs.eq_1 (@jK Tr V)) ?_
 refine aP (fun q:Nat×V×List ByteArray=>aD 30 0 [(0,q.2.1),(7, .sl (.agg 4) o (ts.map Tr.v)),(8, .int .i64 ts.length),(9, .int .i64 q.1)])
  (fun q hp nx1=>q.1≤ts.length∧nx≤nx1∧aV hp nx1∧Ke n0 h hp∧OwL hp n0 .leaf (q.2.2.map V.str) q.2.1∧q.2.2=nmL l (ts.take q.1)∧q.2.2.length≤l.length+q.1)
  (fun q=>ts.length-q.1) (0,v0,l) ⟨Ko _,Kj _,hd,Hp.same.aA0,hv0,rfl,Kj _⟩ (by simp only[WkL,aD,jH,jI,jJ,jK,go_sem,reduceIte,jA,jB,jC,jD,reduceCtorEq,jE,jF]) ?_
 rintro⟨i,v,l1⟩ hp nx1 ⟨hi,hnx,hdm,hsm,aAy,hl1,hlen⟩;generalize hQ:bB _ _ _ _ _=Q0;dsimp only at hi aAy hl1 hlen;refine Zk ?_;rcases Kp i ts.length with hlt|hge
 ·have hc:decide ((i:Int)<(ts.length:Int))=true:=dct;have hg:=aO Tr.v ts i hlt;have hw:IntKind.i64.wrap ((i:Int)+1)=((i+1:Nat):Int):=wrp;have aAt:nmL l (ts.take (i+1))=nmT l1 ts[i]:=by rw[Kg hlt,DO,←hl1];rfl
  generalize ts[i]=T at hg aAt;have hTf:=Tr.aAD T;have h0:=vS T.x;have hne:(!(T.x.toList==(⟨#[]⟩:ByteArray).toList))= !decide (T.x.size=0):=by rw[h0]
  unfold nmT at aAt;by_cases hz:T.x.size=0
  ·have g1:decide (T.x.size=0)=true:=dct;rw[if_neg (by simp[hz])] at aAt;refine aue (e9 hc hg hlt Tr.v.eq_1 h0 g1 hw (@jK Tr V) jG) ?_;rw[←hQ];exact aG (i+1,v,l1) Zw ⟨hlt,or,dmo hdm,kep hsm,aAy.le (leo hdm),aAt.symm,Zw⟩ (by simp only[WkL,aD,jH,jI,jJ,go_sem,reduceIte,jA,jB,jC,jD,reduceCtorEq,jE,jF])
  have g1:decide (T.x.size=0)=false:=dcf;have C:=fm aAy or T.x;cases hb:hZ T.x l1 with
  |true=>
   rw[hb] at C;rw[if_neg (by simp[hb])] at aAt;refine aue (e8 hc hg hlt Tr.v.eq_1 h0 g1 (@jK Tr V) jG) ?_;refine aJ C rfl (wF (leo hdm)) ?_;refine Zn ?_;refine aue (e2 hw hc) ?_;rw[←hQ];exact aG (i+1,v,l1) Zw ⟨hlt,or,dmo hdm,kep hsm,aAy.le (leo hdm),aAt.symm,Zw⟩ (by simp only[WkL,aD,jH,jI,jJ,go_sem,reduceIte,jA,jB,jC,jD,reduceCtorEq,jE,jF])
  |false=>
   rw[hb] at C;rw[if_pos (by simp[hb,hz])] at aAt;refine aue (e8 hc hg hlt Tr.v.eq_1 h0 g1 (@jK Tr V) jG) ?_;refine aJ C rfl (wF (leo hdm)) ?_;refine Zn ?_;rcases aAy with⟨q1,rfl⟩|⟨q1,id,q2,rfl,q3⟩
   ·have hl0:l1=[]:=by simpa using q1
    subst hl0;refine aun (e4 hc Tr.v.eq_1 (@jK Tr V) hw) ?_;refine eY rfl rfl Zm (by simp only[jL,jM];omega) ?_;refine Zn ?_;refine aue hw ?_;rw[←hQ];refine aG (i+1, .rs (nx1+3) .leaf 0 1,[T.x]) Zw ⟨hlt,or,dmo hdm,kep hsm, .inr ⟨Zm,nx1+3,or,Zm,by simp only[go_sem,reduceIte,jA,jB,jC,jD,reduceCtorEq,jE,jF]⟩,aAt.symm,by simp;omega⟩ (by simp only[WkL,aD,jH,jI,jJ,go_sem,reduceIte,jA,jB,jC,jD,reduceCtorEq,jE,jF])
   have hid:id<nx1:=hdm _ _ q3;have hlm:(l1.map V.str).length=l1.length:=jK ..;have htk:(l1.map V.str).take l1.length=l1.map V.str:=Kv Zm;refine aue (e10 hc Tr.v.eq_1 (@jK Tr V) hw q3 hid hlm htk hlen (@jK ByteArray V)) ?_;rw[←hQ];refine aG (i+1, .rs (nx1+3) .leaf 0 (l1.length+1),l1++[T.x]) Zw ⟨hlt,or,dmo hdm,kep hsm, .inr ⟨Zm,nx1+3,or,Zm,by simp only[Qc,KJ,KL,go_sem,reduceIte,jA,jB,jC,jD,reduceCtorEq,jE,jF]⟩,aAt.symm,by simp;omega⟩ (by simp only[WkL,aD,jH,jI,jJ,go_sem,reduceIte,jA,jB,jC,jD,reduceCtorEq,jE,jF])
 have hc:decide ((i:Int)<(ts.length:Int))=false:=dcf;refine aue hc ?_;rw[←hQ];refine au ?_;rw[Kv or] at hl1;exact aC hp (Ka _) ⟨by rw[←hl1];exact aAy,hsm⟩
end Go.Proofs.YtlhedpgobaellaaGreatDoor
namespace Go.Proofs.YtlhedpgobaellaaGreatDoor
open Go.RowKit Go.Sort
attribute [local irreducible] Kw
theorem aR.down{P:Program}{f:FuncId}{args:List V}{h:Hp}{nx:Nat}{R R':V→Hp→Nat→Prop}(c:aR P f args h nx R)(hc:∀v h' nx',nx≤nx'→aV h' nx'→R v h' nx'→∃h2,h2.le h'∧R' v h2 nx'):aR P f args h nx R':=
 ⟨c.1,fun K cargs hlv hrel hv=>(c.2 K cargs hlv hrel hv).mono fun _ _ ⟨K',v,cv,h',nx',a,b,q,d,e,g,i,j⟩=>by
   obtain⟨h2,k1,k2⟩:=hc v h' nx' i (fun m b hm=>(g m (e.lt m b hm)).1) j;exact⟨K',v,cv,h2,nx',a,b,q,d,e.weaken k1,g,i,k2⟩⟩
theorem pl{P:Program}{f:FuncId}{args:List V}{h:Hp}{k:Sh}{es:List V}(hn:∀L,bQ L es)(c:∀h' nx,h.has h'→aR P f args h' nx fun v h'' _=>OwL h'' nx k es v∧Ke nx h' h''):aL P f args h (lst k es):=by
 refine pF hn fun h' nx hh=>⟨(c h' nx hh).1,fun K cargs hlv hrel aBs=>?_⟩;have hd:aV h' nx:=fun m b e=>hlv m (hrel.lt m b e);refine((c h' nx hh).down (R':=fun v h'' _=>nf nx h' k es v h'') ?_).2 K cargs hlv hrel aBs;rintro v h'' nx' hnx hdm ⟨⟨h1,h2⟩|⟨h1,id,h2,h3,h4⟩,hs⟩
 ·exact⟨h',hs.le hd (Ka _), .inl ⟨h1,h2,rfl⟩⟩
 refine⟨h'.set id (.arr k es),fun m b e=>?_, .inr ⟨h1,id,h2,h3,rfl⟩⟩;simp only[Kb] at e;split at e
 ·rename_i hm;rw[hm,h4];exact e
 exact hs.le hd (Ka _) m b e
theorem xO(l:Li)(hl:bW l=true)(h:Hp):aL Tryz.prog 124 [l.v] h (lst (.agg 4) (l.ts.map Tr.v)):=by
 refine aI (fun L=>lA (fun L=>cK (Tr.aAN L) _) L) fun h' nx hh=>aB L.aXW fun hd=>?_;have b0:=nG hl;obtain⟨b1,b2,b3⟩:=nY hl;have b4:=mO b2;have b5:=mO b3;obtain⟨o2,ho2⟩:=fH (.agg 4) (l.x.ts.map Tr.v);obtain⟨o3,ho3⟩:=fH (.agg 4) (l.y.ts.map Tr.v);have D1:∀h:Hp,aL Tryz.prog 192 [.agg [.int .i64 l.x.op, .str l.x.t.x, .int .i64 l.x.t.w.k, .int .i64 l.x.t.w.n, .str l.x.t.w.s, .sl (.agg 6) l.x.o (l.x.kids.map Ex.v)]] h (.fn (.func 237) [] [.ept (.agg 6) [l.x.v] 0 0]):=fun h=>(show V.agg l.x.cs=_ from rfl)▸Kc l.x▸sQ l.x h;have D3:∀h:Hp,aL Tryz.prog 192 [.agg [.int .i64 l.y.op, .str l.y.t.x, .int .i64 l.y.t.w.k, .int .i64 l.y.t.w.n, .str l.y.t.w.s, .sl (.agg 6) l.y.o (l.y.kids.map Ex.v)]] h (.fn (.func 237) [] [.ept (.agg 6) [l.y.v] 0 0]):=fun h=>(show V.agg l.y.cs=_ from rfl)▸Kc l.y▸sQ l.y h;have D2:∀h:Hp,aL Tryz.prog 191 [.fn (.func 237) [] [.ept (.agg 6) [l.x.v] 0 0]] h (.sl (.agg 4) o2 (l.x.ts.map Tr.v)):=fun h=>ho2▸oK l.x b2 h;have D4:∀h:Hp,aL Tryz.prog 191 [.fn (.func 237) [] [.ept (.agg 6) [l.y.v] 0 0]] h (.sl (.agg 4) o3 (l.y.ts.map Tr.v)):=fun h=>ho3▸oK l.y b3 h;have D5:∀(n:Nat) (h:Hp),aL Tryz.prog 190 [.sl .leaf (.tok n) [trs l.a.o l.a.l,trs o2 l.x.ts,trs o3 l.y.ts]] h (lst (.agg 4) (l.ts.map Tr.v)):=fun n h=>nh _ _ _ _ _ _ _ or h;obtain⟨X,hX⟩:∃X,l.x.v=X:=⟨_,rfl⟩;obtain⟨Y,hY⟩:∃Y,l.y.v=Y:=⟨_,rfl⟩;rw[hX] at D1 D2;rw[hY] at D3 D4;rw[Li.aAl];refine ZK ?_;have D5:=D5 (nx+12);refine aue trs.eq_1 ?_;exact aC h' (leo hd) ⟨rfl,rfl⟩
theorem xC(o:Own)(ts:List Tr)(ht:ts.length≤100000000)(h:Hp):aL Tryz.prog 123 [.sl .leaf .nil [],trs o ts] h (lst .leaf ((nmL [] ts).map V.str)):=by
 exact pl (fun L=>cK (f:=V.str) (fun x=>trivial) _) fun h' nx hh=>wA o ts ht [] Zm _ h' nx nx (Kj _) (.inl ⟨rfl,rfl⟩)
theorem yN(l:Li)(hl:bW l=true)(h:Hp):aL Tryz.prog 75 [l.v] h (lst .leaf (l.vars.map V.str)):=by
 refine aI (fun L=>lA (fun L=>cK (f:=V.str) (fun x=>trivial) _) L) fun h' nx hh=>aB L.aX4 fun hd=>?_;have b0:=nG hl;obtain⟨o2,ho2⟩:=fH (.agg 4) (l.ts.map Tr.v);have C1:=fun h=>ho2▸xO l hl h;have C2:=fun h=>xC o2 l.ts or h;obtain⟨X,hX⟩:∃X,l.v=X:=⟨_,rfl⟩;have hf:=Li.aAD l;rw[hX] at C1 hf⊢;refine ZK ?_;refine aue hf ?_;exact aC h' (leo hd) ⟨rfl,rfl⟩
theorem zj(e:Ex)(he:sq e=true)(h:Hp):aL Tryz.prog 230 [e.v] h (lst .leaf ((nmL [] e.ts).map V.str)):=by
 refine aI (fun L=>lA (fun L=>cK (f:=V.str) (fun x=>trivial) _) L) fun h' nx hh=>aB L.aUC fun hd=>?_;have b0:=mO he;obtain⟨o2,ho2⟩:=fH (.agg 4) (e.ts.map Tr.v);have C1:=fun h=>sQ e h;have C2:=fun h=>ho2▸oK e he h;have C3:=fun h=>xC o2 e.ts or h;obtain⟨X,hX⟩:∃X,e.v=X:=⟨_,rfl⟩;have hf:=Ki e;rw[hX] at C1 C2 hf⊢;refine ZK ?_;refine aue hf ?_;exact aC h' (leo hd) ⟨rfl,rfl⟩
theorem xa(r:Ru)(hr:dW r=true)(h:Hp)(nx:Nat):aR Tryz.prog 183 [r.v] h nx fun v h' nx'=>OwL h' nx .leaf (r.vars.map V.str) v∧Ke nx h h':=by
 refine aB L.aWn fun hd=>?_;obtain⟨b1,b2,b3⟩:=dG hr;have hlen:=ny hr;refine ZK ?_;refine aue (e3 Ru.v.eq_1 trs.eq_1 (@jK Li V)) ?_;refine aU ((wA r.h.o r.h.l or [] Zm _ _ (nx+1) (nx+1) or (.inl ⟨rfl,rfl⟩)).dom.mono ?_);rintro v1 h1 nx1 hle1 ⟨⟨ho1,hs1⟩,hd1,_⟩;unfold bT;refine Zn ?_;have hb1:h1 nx=some (.arr (.agg 6) [.agg [.str r.h.r, .sl (.agg 4) r.h.o (r.h.l.map Tr.v), .int .i64 r.g, .int .i64 r.c, .sl (.agg 17) r.o (r.b.map Li.v), .int .i64 r.at_]]):=by rw[hs1 nx or];simp only[go_sem,reduceIte,jA,jB,jC,jD,reduceCtorEq,jE,jF]
 have n1:nx<nx1:=hd1 _ _ hb1;refine aue (e3 hb1 n1 (@jK Li V)) ?_;have hs0:Ke nx h h1:=fun m hm=>by rw[hs1 m or];simp only[Kb];rw[if_neg or]
 refine aP (fun q:Nat×V=>aD 23 0 [(3,q.2),(11, .sl (.agg 17) r.o (r.b.map Li.v)),(12, .int .i64 r.b.length),(13, .int .i64 q.1)])
  (fun q hp nx2=>q.1≤r.b.length∧nx1≤nx2∧aV hp nx2∧Ke nx h hp∧OwL hp (nx+1) .leaf ((wX (r.b.take q.1) (nmL [] r.h.l)).map V.str) q.2)
  (fun q=>r.b.length-q.1) (0,v1) ⟨Ko _,Zw,dmo hd1,hs0,ho1⟩ (by simp only[WkL,aD,jH,jI,jJ,jK,go_sem,reduceIte,jA,jB,jC,jD,reduceCtorEq,jE,jF]) ?_
 rintro⟨i,v⟩ hp nx2 ⟨hi,hnx,hdm,hsm,aAy⟩;generalize hQ:bB _ _ _ _ _=Q0;dsimp only at hi aAy;refine Zk ?_;rcases Kp i r.b.length with hlt|hge
 ·have hc:decide ((i:Int)<(r.b.length:Int))=true:=dct;have hg:=aO Li.v r.b i hlt;have hw:IntKind.i64.wrap ((i:Int)+1)=((i+1:Nat):Int):=wrp;have aAt:=tk r.b (nmL [] r.h.l) i hlt;have hrl:=b3 r.b[i] (Ku _);have hlv:=hlen i;generalize r.b[i]=T at hg aAt hrl;have b0:=nG hrl;obtain⟨o2,ho2⟩:=fH (.agg 4) (T.ts.map Tr.v);have C1:=fun h=>ho2▸xO T hrl h;obtain⟨X,hX⟩:∃X,T.v=X:=⟨_,rfl⟩;have hTf:=Li.aAD T;rw[hX] at hg C1 hTf;refine aue (e6 hc hg hlt hTf (@jK Li V) jG) ?_;refine aU ((wA o2 T.ts or _ or v _ (nx2+2) (nx+1) or (aAy.le (leo hdm))).dom.mono ?_);rintro v2 h2 nx3 aAV ⟨⟨ho3,hs3⟩,hd3,_⟩;unfold bT;refine Zn ?_;refine aue hw ?_;rw[←hQ];refine aG (i+1,v2) Zw ⟨hlt,or,dmo hd3,fun m hm=>?_,by rw[aAt];exact ho3⟩ (by simp only[WkL,aD,jH,jI,jJ,go_sem,reduceIte,jA,jB,jC,jD,reduceCtorEq,jE,jF]);rw[hs3 m or,←hsm m hm];simp only[Kb];rw[if_neg or,if_neg or]
 have hc:decide ((i:Int)<(r.b.length:Int))=false:=dcf;refine aue hc ?_;rw[←hQ];refine au ?_;rw[Kv or] at aAy;refine aC hp (Ka _) ⟨aAy.imp id fun⟨a,i,b,c,d⟩=>⟨a,i,or,c,d⟩,hsm⟩
theorem dv(n:Nat)(h:n≤300000000000000):IntKind.i64.wrap ((n:Int).tdiv 50)=((n / 50:Nat):Int):=by
 have e:((n / 50:Nat):Int)=(n:Int).tdiv 50:=Int.ofNat_tdiv n 50;rw[←e];exact fI or or
theorem og(t:Tr)(r:List Tr)(l:Int):kJ (t::r) l=if l-eE t<0 then-1 else kJ r (l-eE t):=rfl
theorem wb(k:Ex)(r:List Ex)(l:Int):kD (k::r) l=if l<0 then-1 else kD r (mD k l):=by rw[kD]
theorem A2(l:Int):kD [] l=l:=by rw[kD]
theorem vf(b:Li)(r:List Li)(l:Int):az (b::r) l=if l<0 then-1 else az r (AE b l):=rfl
theorem bf(a:Am)(ha:a.s47)(l:Int)(hl:-100000000000000≤l∧l≤300)(h:Hp):aL Tryz.prog 88 [a.v, .int .i64 l] h (.int .i64 (gB a l)):=by
 refine aI (fun L=>trivial) fun h' nx hh=>aB L.aXx fun hd=>?_;obtain⟨r,o,ts⟩:=a;refine ZK ?_;have hn:=pu ha;have hr:r.size≤nP:=ha.1;unfold nP at hr;dsimp only at hn;have d1:=dv r.size or;have hat:gB ⟨r,o,ts⟩ l=kJ ts (l-(1+((r.size / 50:Nat):Int))):=rfl;rw[hat];generalize ((r.size / 50:Nat):Int)=D at hn d1;have d2:IntKind.i64.wrap (1+D)=1+D:=wrp;have d3:IntKind.i64.wrap (l-(1+D))=l-(1+D):=wrp;refine aue (e6 Am.v.eq_1 d1 d2 d3 trs.eq_1 (@jK Tr V)) ?_
 refine aP (fun q:Nat×Int=>aD 37 0 [(1, .int .i64 q.2),(15,trs o ts),(16, .int .i64 ts.length),(17, .int .i64 q.1)])
  (fun q hp nx1=>q.1≤ts.length∧nx≤nx1∧aV hp nx1∧Ke nx h' hp∧kJ ts (l-(1+D))=kJ (ts.drop q.1) q.2∧-200000000000000≤q.2∧q.2≤300-q.1∧q.1≤301)
  (fun q=>ts.length-q.1) (0,l-(1+D)) ⟨Ko _,Zw,by exact dmo hd,by exact kep Hp.same.aA0,rfl,Zw,Zw,Zw⟩ (by simp only[WkL,aD,jH,jI,jJ,trs,go_sem,reduceIte,jA,jB,jC,jD,reduceCtorEq,jE,jF]) ?_
 rintro⟨i,c⟩ hp nx1 ⟨hi,hnx,hdm,hsm,hTe,hb1,hb2,hb3⟩;generalize hQ:bB _ _ _ _ _=Q0;dsimp only at hi hTe hb1 hb2 hb3;refine Zk ?_;have hle:=hsm.le hd (Ka _);rcases Kp i ts.length with hlt|hge
 ·have hc:decide ((i:Int)<(ts.length:Int))=true:=dct;have hg:=aO Tr.v ts i hlt;have hdr:ts.drop i=ts[i]::ts.drop (i+1):=Ks hlt;have aUq:ts[i].s47:=ha.2 _ (Ku _);have hcb:=vF aUq;rw[hdr,og] at hTe;have hct:eE ts[i]=1+((ts[i].x.size+ts[i].w.s.size)/ 50:Nat):=rfl;obtain⟨q1,q2⟩:=aUq;unfold nP at q1 q2;obtain⟨N,hN⟩:∃N,ts[i].x.size+ts[i].w.s.size=N:=⟨_,rfl⟩;rw[hN] at hct;have w1:IntKind.i64.wrap ((ts[i].x.size:Int)+(ts[i].w.s.size:Int))=(N:Int):=wrp;have w2:=dv N or;obtain⟨D2,hD2⟩:∃D2,N / 50=D2:=⟨_,rfl⟩;rw[hD2] at w2 hct;have w3:IntKind.i64.wrap (1+(D2:Int))=eE ts[i]:=wrp;have w4:IntKind.i64.wrap (c-eE ts[i])=c-eE ts[i]:=wrp;by_cases aBq:c-eE ts[i]<0
  ·have g1:decide (c-eE ts[i]<0)=true:=dct;rw[if_pos aBq] at hTe;refine aue (e12 hc hg hlt w1 w2 w3 w4 g1 Tr.v.eq_1 trs.eq_1 (@jK Tr V) jG) ?_;rw[←hQ];refine au ?_;refine aC h' (lef hd hle) ⟨?_,rfl⟩;rw[hTe];rfl
  have g1:decide (c-eE ts[i]<0)=false:=dcf;have hw:IntKind.i64.wrap ((i:Int)+1)=((i+1:Nat):Int):=wrp;rw[if_neg aBq] at hTe;refine aue (e13 hc hg hlt w1 w2 w3 w4 g1 Tr.v.eq_1 trs.eq_1 (@jK Tr V) jG hw) ?_;rw[←hQ];exact aG (i+1,c-eE ts[i]) Zw ⟨hlt,or,dmo hdm,kep hsm,hTe,Zw,Zw,Zw⟩ (by simp only[WkL,aD,jH,jI,jJ,trs,go_sem,reduceIte,jA,jB,jC,jD,reduceCtorEq,jE,jF])
 have hc:decide ((i:Int)<(ts.length:Int))=false:=dcf;refine aue hc ?_;rw[←hQ];refine au ?_;refine aC h' hle ⟨?_,rfl⟩;rw[hTe,KH hge];rfl
theorem wE:∀(n:Nat) (e:Ex),SizeOf.sizeOf e≤n→e.s47→∀(l:Int),(-100000000000000≤l∧l≤300)→∀(h:Hp),aL Tryz.prog 89 [e.v, .int .i64 l] h (.int .i64 (mD e l))
 |0, .mk op t o ks,h,_,_,_,_=>by simp at h
 |n+1, .mk op t o ks,hz,hs,l,hl,h=>by
  have hcb:=vF hs.1;have hk:∀e∈ks,SizeOf.sizeOf e≤n∧e.s47:=fun e he=>by
   refine⟨?_,Ex.aAz.1 hs.2 e he⟩;have:=KQ he;simp only[Ex.mk.sizeOf_spec] at hz;omega
  refine aI (fun L=>trivial) fun h' nx hh=>aB L.aXw fun hd=>?_;rw[Kc];refine ZK ?_;have hat:mD (.mk op t o ks) l=kD ks (l-eE t):=by rw[mD]
  rw[hat];have hct:eE t=1+((t.x.size+t.w.s.size)/ 50:Nat):=rfl;obtain⟨q1,q2⟩:=hs.1;unfold nP at q1 q2;obtain⟨N,hN⟩:∃N,t.x.size+t.w.s.size=N:=⟨_,rfl⟩;rw[hN] at hct;have w1:IntKind.i64.wrap ((t.x.size:Int)+(t.w.s.size:Int))=(N:Int):=wrp;have w2:=dv N or;obtain⟨D2,hD2⟩:∃D2,N / 50=D2:=⟨_,rfl⟩;rw[hD2] at w2 hct;have w3:IntKind.i64.wrap (1+(D2:Int))=eE t:=wrp;have w4:IntKind.i64.wrap (l-eE t)=l-eE t:=wrp;refine aue (e10 Ex.cs.eq_1 Ex.op.eq_1 Ex.t.eq_1 Ex.o.eq_1 Ex.kids.eq_1 w1 w2 w3 w4 (@jK Ex V)) ?_
  refine aP (fun q:Nat×Int=>aD 35 0 [(1, .int .i64 q.2),(22, .sl (.agg 6) o (ks.map Ex.v)),(23, .int .i64 ks.length),(24, .int .i64 q.1)])
   (fun q hp nx1=>q.1≤ks.length∧nx≤nx1∧aV hp nx1∧Ke nx h' hp∧kD ks (l-eE t)=kD (ks.drop q.1) q.2∧q.2≤300∧(0≤q.2→q.2≤300-q.1)∧q.1≤301)
   (fun q=>ks.length-q.1) (0,l-eE t) ⟨Ko _,Zw,by exact dmo hd,by exact kep Hp.same.aA0,rfl,Zw,Zw,Zw⟩ (by simp only[WkL,aD,jH,jI,jJ,go_sem,reduceIte,jA,jB,jC,jD,reduceCtorEq,jE,jF]) ?_
  rintro⟨i,c⟩ hp nx1 ⟨hi,hnx,hdm,hsm,hTe,hb2,hb4,hb3⟩;generalize hQ:bB _ _ _ _ _=Q0;dsimp only at hi hTe hb2 hb3 hb4;refine Zk ?_;have hle:=hsm.le hd (Ka _);rcases Kp i ks.length with hlt|hge
  ·have hc:decide ((i:Int)<(ks.length:Int))=true:=dct;have hg:=aO Ex.v ks i hlt;have hdr:ks.drop i=ks[i]::ks.drop (i+1):=Ks hlt;have hfl:=Ki ks[i];rw[hdr,wb] at hTe;by_cases aBq:c<0
   ·have g1:decide (c<0)=true:=dct;rw[if_pos aBq] at hTe;refine aue (e6 hc hg hlt g1 (@jK Ex V) (e2 hfl jG)) ?_;rw[←hQ];refine au ?_;refine aC h' (lef hd hle) ⟨?_,rfl⟩;rw[hTe];rfl
   have g1:decide (c<0)=false:=dcf;have hi3:=hb4 or;have hw:IntKind.i64.wrap ((i:Int)+1)=((i+1:Nat):Int):=wrp;rw[if_neg aBq] at hTe;obtain⟨hk1,hk2⟩:=hk _ (Ku hlt);have C1:=fun h=>wE n ks[i] hk1 hk2 c ⟨or,hb2⟩ h;have hbd:=mc n ks[i] hk1 hk2 c;refine aue (e7 hc hg hlt g1 (@jK Ex V) (e2 hfl jG) hw) ?_;rw[←hQ];exact aG (i+1,mD ks[i] c) Zw ⟨hlt,or,dmo hdm,kep hsm,hTe,Zw,Zw,Zw⟩ (by simp only[WkL,aD,jH,jI,jJ,go_sem,reduceIte,jA,jB,jC,jD,reduceCtorEq,jE,jF])
  have hc:decide ((i:Int)<(ks.length:Int))=false:=dcf;refine aue hc ?_;rw[←hQ];refine au ?_;refine aC h' hle ⟨?_,rfl⟩;rw[hTe,KH hge];rw[A2];rfl
theorem u0(r:Ru)(hr:r.s47)(h:Hp):aL Tryz.prog 41 [r.v, .int .i64 300] h (.int .i64 (x9 r)):=by
 refine aI (fun L=>trivial) fun h' nx hh=>aB L.aYJ fun hd=>?_;obtain⟨⟨hr',ho,hl⟩,g,c0,o,b,at_⟩:=r;refine ZK ?_;have C1:∀h:Hp,aL Tryz.prog 88 [.agg [.str hr', .sl (.agg 4) ho (hl.map Tr.v)], .int .i64 300] h (.int .i64 (gB ⟨hr',ho,hl⟩ 300)):=fun h=>bf ⟨hr',ho,hl⟩ hr.1 300 or h;have hab:=zg hr.1 300;have hat:x9 ⟨⟨hr',ho,hl⟩,g,c0,o,b,at_⟩=az b (gB ⟨hr',ho,hl⟩ 300):=rfl;rw[hat];dsimp only at hab;generalize gB ⟨hr',ho,hl⟩ 300=A at C1 hab;refine aue (e2 Ru.v.eq_1 (@jK Li V)) ?_;clear C1
 refine aP (fun q:Nat×Int=>aD 32 0 [(1, .int .i64 q.2),(12, .sl (.agg 17) o (b.map Li.v)),(13, .int .i64 b.length),(14, .int .i64 q.1)])
  (fun q hp nx1=>q.1≤b.length∧nx≤nx1∧aV hp nx1∧Ke nx h' hp∧az b A=az (b.drop q.1) q.2∧q.2≤300∧(0≤q.2→q.2≤300-q.1)∧q.1≤301)
  (fun q=>b.length-q.1) (0,A) ⟨Ko _,Zw,by exact dmo hd,by exact kep Hp.same.aA0,rfl,Zw,Zw,Zw⟩ (by simp only[WkL,aD,jH,jI,jJ,go_sem,reduceIte,jA,jB,jC,jD,reduceCtorEq,jE,jF]) ?_
 rintro⟨i,c⟩ hp nx1 ⟨hi,hnx,hdm,hsm,hTe,hb2,hb4,hb3⟩;generalize hQ:bB _ _ _ _ _=Q0;dsimp only at hi hTe hb2 hb3 hb4;refine Zk ?_;have hle:=hsm.le hd (Ka _);rcases Kp i b.length with hlt|hge
 ·have hc:decide ((i:Int)<(b.length:Int))=true:=dct;have hg:=aO Li.v b i hlt;have hdr:b.drop i=b[i]::b.drop (i+1):=Ks hlt;have hs:=hr.2 _ (Ku hlt);rw[hdr,vf] at hTe;by_cases aBq:c<0
  ·have g1:decide (c<0)=true:=dct;rw[if_pos aBq] at hTe;have hfl:=Li.aAD b[i];refine aue (e6 hc hg hlt g1 (@jK Li V) (e2 hfl jG)) ?_;rw[←hQ];refine au ?_;refine aC h' (lef hd hle) ⟨?_,rfl⟩;rw[hTe];rfl
  have g1:decide (c<0)=false:=dcf;have hi3:=hb4 or;have hw:IntKind.i64.wrap ((i:Int)+1)=((i+1:Nat):Int):=wrp;rw[if_neg aBq] at hTe;obtain⟨x1,y1⟩:=zg hs.1 c;obtain⟨x2,y2⟩:=mc _ b[i].x (Kj _) hs.2.1 (gB b[i].a c);obtain⟨x3,y3⟩:=mc _ b[i].y (Kj _) hs.2.2 (mD b[i].x (gB b[i].a c));have hA:-50000000000000≤gB b[i].a c∧gB b[i].a c≤300:=by split at x1<;>omega
  have hX:-100000000000000≤mD b[i].x (gB b[i].a c)∧mD b[i].x (gB b[i].a c)≤300:=by split at x2<;>omega
  have hv:=Li.aAl b[i];generalize b[i]=B at hs hv hg hTe x1 x2 x3 y1 y2 y3 hA hX;have D1:∀h:Hp,aL Tryz.prog 88 [.agg [.str B.a.r, .sl (.agg 4) B.a.o (B.a.l.map Tr.v)], .int .i64 c] h (.int .i64 (gB B.a c)):=fun h=>bf B.a hs.1 c or h;have D2:∀h:Hp,aL Tryz.prog 89 [.agg [.int .i64 B.x.op, .str B.x.t.x, .int .i64 B.x.t.w.k, .int .i64 B.x.t.w.n, .str B.x.t.w.s, .sl (.agg 6) B.x.o (B.x.kids.map Ex.v)], .int .i64 (gB B.a c)] h (.int .i64 (mD B.x (gB B.a c))):=fun h=>Kc B.x▸wE _ B.x (Kj _) hs.2.1 _ or h;have D3:∀h:Hp,aL Tryz.prog 89 [.agg [.int .i64 B.y.op, .str B.y.t.x, .int .i64 B.y.t.w.k, .int .i64 B.y.t.w.n, .str B.y.t.w.s, .sl (.agg 6) B.y.o (B.y.kids.map Ex.v)], .int .i64 (mD B.x (gB B.a c))] h (.int .i64 (mD B.y (mD B.x (gB B.a c)))):=fun h=>Kc B.y▸wE _ B.y (Kj _) hs.2.2 _ or h;refine aue (e8 hc hg hlt g1 (@jK Li V) hv jG hw) ?_;rw[←hQ];exact aG (i+1,AE B c) Zw ⟨hlt,or,dmo hdm,kep hsm,hTe,by dsimp only;unfold AE;omega,by dsimp only;unfold AE;omega,Zw⟩ (by simp only[WkL,aD,jH,jI,jJ,AE,go_sem,reduceIte,jA,jB,jC,jD,reduceCtorEq,jE,jF])
 have hc:decide ((i:Int)<(b.length:Int))=false:=dcf;refine aue hc ?_;rw[←hQ];refine au ?_;refine aC h' hle ⟨?_,rfl⟩;rw[hTe,KH hge];rfl
mutual
def Ex.cp:Ex→Ex
 | .mk op t _ ks=> .mk op t (frO ks) (Ex.cps ks)
def Ex.cps:List Ex→List Ex
 | []=>[]
 |e::r=>e.cp::Ex.cps r
end
end Go.Proofs.YtlhedpgobaellaaGreatDoor
namespace Go.Proofs.YtlhedpgobaellaaGreatDoor
open Go.RowKit Go.Sort
attribute [local irreducible] Kw
end Go.Proofs.YtlhedpgobaellaaGreatDoor
namespace Go.Proofs.YtlhedpgobaellaaGreatDoor
open Go.RowKit Go.Sort
attribute [local irreducible] Kw
def lkB(x:ByteArray):List Tr→Option Vl
 | []=>none
 |t::r=>if t.x=x then some t.w else lkB x r
theorem yG(x:ByteArray)(t:Tr):∀l:List Tr,lkB x (l++[t])=(match lkB x l with
 |some w=>some w
 |none=>if t.x=x then some t.w else none)
 | []=>by simp[lkB]
 |a::l=>by
  simp only[jP,lkB];split
  ·rfl
  exact yG x t l
def ei(es:List ME)(l:List Tr):Prop:=∀x:ByteArray,match lkB x l with
 |none=>bN (.plain .leaf [.str]) (.str x) es=some none
 |some w=>∃j,bN (.plain .leaf [.str]) (.str x) es=some (some j)∧(es.getD j default).v=w.v∧j<es.length
theorem wC(e:yB)(k:V)(m:ME):∀es:List ME,bN e k (es++[m])=(match bN e k es with
 |some (some j)=>some (some j)
 |some none=>(match veq e k m.k with|some true=>some (some es.length)|some false=>some none|none=>none)
 |none=>none)
 | []=>by
  simp only[jQ,bN,jM];cases veq e k m.k with
  |none=>rfl
  |some b=>cases b<;>rfl
 |a::es=>by
  simp only[jP,bN,jL];cases veq e k a.k with
  |none=>rfl
  |some b=>
   cases b with
   |true=>rfl
   |false=>
    simp only;rw[wC e k m es];cases bN e k es with
    |none=>rfl
    |some o=>
     cases o with
     |some j=>rfl
     |none=>
      simp only[Option.map_some,Option.map_none];cases veq e k m.k with
      |none=>rfl
      |some b=>cases b<;>rfl
theorem j6(x y:ByteArray):veq (.plain .leaf [.str]) (.str x) (.str y)=some (decide (x=y)):=by
 have e:veq (.plain .leaf [.str]) (.str x) (.str y)=some (x.toList==y.toList):=rfl;rw[e,dS]
section
variable{P:Program}{Q:St→Prop}{s:St}{dst:Option Nat}{r:List aA}{x:aK}
theorem pN(h:aZ P r Q ⟨bI s.sl dst (.map s.nx),s.h.set s.nx (.mp [] 0),s.nx+1⟩):aZ P (⟨dst,none, .mp .mk⟩::r) Q s:=h
theorem nL{kS:Sh}{ks:List LK}{n c:Nat}{es:List ME}{k v:aK}(hk:(k.ev s.sl).fits kS=true)(hx:x.ev s.sl= .map n)(hn:s.h n=some (.mp es c))(hf:bN (.plain kS ks) (k.ev s.sl) es=some none)
 (h2:aZ P r Q ⟨bI s.sl dst V.undef,s.h.set n (.mp (es++[⟨k.ev s.sl,v.ev s.sl,c⟩]) (c+1)),s.nx+1⟩):aZ P (⟨dst,none, .mp (.put kS ks x k v)⟩::r) Q s:=by
 unfold aZ;simp only[LOp.run,LOp.sem,MOp.sem,hx,hn,hf];exact⟨hk,h2⟩
end
end Go.Proofs.YtlhedpgobaellaaGreatDoor
namespace Go.Proofs.YtlhedpgobaellaaGreatDoor
open Go.RowKit Go.Sort
attribute [local irreducible] Kw
def gC(es:List ME)(l:List ByteArray):Prop:=∀x:ByteArray,match bN (.plain .leaf [.str]) (.str x) es with
 |some none=>x∉l
 |some (some j)=>j<es.length∧x∈l∧∃n:Int,(es.getD j default).v= .int .i64 n∧1≤n∧n≤l.length
 |none=>False
theorem ib:gC [] []:=fun x=>by simp[bN]
theorem ab(e:yB)(k:V):∀(a b:List ME),a.map ME.k=b.map ME.k→bN e k a=bN e k b
 | [],[],_=>rfl
 |x::a,y::b,h=>by
  simp only[KJ,List.cons.injEq] at h;simp only[bN,h.1,ab e k a b h.2]
theorem i7(e:yB)(k:V):∀(l:List ME) (j:Nat),bN e k l=some (some j)→veq e k (l.getD j default).k=some true
 | [],j,h=>by cases h
 |x::l,j,h=>by
  simp only[bN] at h;cases hv:veq e k x.k with
  |none=>rw[hv] at h;cases h
  |some b=>
   rw[hv] at h;cases b with
   |true=>cases h;exact hv
   |false=>
    simp only[Option.map_eq_some_iff] at h;obtain⟨o,h1,i,rfl,rfl⟩:=h;exact i7 e k l i h1
theorem ti{x:ByteArray}{v:V}(h:veq (.plain .leaf [.str]) (.str x) v=some true):v= .str x:=by
 simp only[veq] at h;split at h
 ·rename_i hf;cases v<;>first|(simp[V.fits,V.aAE] at hf;done)|simp only[V.cells,gF,gG,reduceCtorEq,Option.some.injEq] at h
  rename_i s;rw[dS] at h;rw[of_decide_eq_true h]
 cases h
theorem Ab{es:List ME}{l:List ByteArray}{x:ByteArray}{b:Nat}(h:gC es l)(hx:bN (.plain .leaf [.str]) (.str x) es=some none):gC (es++[⟨.str x, .int .i64 1,b⟩]) (l++[x]):=fun y=>by
 have hy:=h y;rw[wC];cases hm:bN (.plain .leaf [.str]) (.str y) es with
 |none=>rw[hm] at hy;exact hy.elim
 |some o=>
  rw[hm] at hy;cases o with
  |some j=>
   obtain⟨h1,h2,n,h3,h4,h5⟩:=hy;refine⟨by simp;omega,by simp[h2],n,?_,h4,by simp;omega⟩;rw[←h3];simp only[Kq];rw[List.getElem?_append_left h1]
  |none=>
   simp only[j6] at hy⊢;by_cases e:y=x
   ·rw[decide_eq_true e];exact⟨Zm,by simp[e],1,by simp[Kq],or,by simp;omega⟩
   rw[decide_eq_false e];simp[hy,e]
theorem Aa{es:List ME}{l:List ByteArray}{x:ByteArray}{j:Nat}{n:Int}(h:gC es l)(hx:bN (.plain .leaf [.str]) (.str x) es=some (some j))(hn:(es.getD j default).v= .int .i64 n)(b:Nat):gC (es.set j ⟨.str x, .int .i64 (n+1),b⟩) (l++[x]):=fun y=>by
 have hk:=ti (i7 _ _ _ _ hx);have hX:=h x;rw[hx] at hX;obtain⟨p1,p2,n',p3,p4,p5⟩:=hX;rw[hn] at p3;obtain rfl:n=n':=by injection p3
 have aOw:bN (.plain .leaf [.str]) (.str y) (es.set j ⟨.str x, .int .i64 (n+1),b⟩)=bN (.plain .leaf [.str]) (.str y) es:=by
  refine ab _ _ _ _ (List.ext_getElem Zm fun i h1 h2=>?_);simp only[List.getElem_map,List.getElem_set];split
  ·rename_i e;subst e;rw[Kq,KB p1] at hk;exact hk.symm
  rfl
 have hy:=h y;rw[aOw];cases hm:bN (.plain .leaf [.str]) (.str y) es with
 |none=>rw[hm] at hy;exact hy.elim
 |some o=>
  rw[hm] at hy;cases o with
  |none=>
   have:y≠x:=fun e=>hy (e▸p2);simp[hy,this]
  |some i=>
   obtain⟨h1,h2,m,h3,h4,h5⟩:=hy;refine⟨by simpa using h1,by simp[h2],?_⟩;by_cases e:j=i
   ·subst e;refine⟨n+1,?_,or,by simp;omega⟩;rw[Kq,List.getElem?_set_self p1];rfl
   refine⟨m,?_,h4,by simp;omega⟩;rw[←h3];simp only[Kq];rw[List.getElem?_set_ne e]
theorem qH{es:List ME}{l:List ByteArray}(h:gC es l)(x:ByteArray):∃r n,bN (.plain .leaf [.str]) (.str x) es=some r∧iM false (.int .i64 0) es r= .int .i64 n∧0≤n∧n≤l.length∧(n=0↔hZ x l=false):=by
 have hx:=h x;cases hm:bN (.plain .leaf [.str]) (.str x) es with
 |none=>rw[hm] at hx;exact hx.elim
 |some o=>
  rw[hm] at hx;cases o with
  |none=>exact⟨none,0,rfl,rfl,or,or,by simp[uX.2 hx]⟩
  |some j=>
   obtain⟨h1,h2,n,h3,h4,h5⟩:=hx;refine⟨some j,n,rfl,h3,or,h5,⟨fun e=>or,fun e=>absurd h2 (uX.1 e)⟩⟩
section
variable{P:Program}{Q:St→Prop}{s:St}{dst:Option Nat}{r:List aA}{x:aK}
theorem AA{kS:Sh}{ks:List LK}{n c j:Nat}{es:List ME}{k v:aK}(hk:(k.ev s.sl).fits kS=true)(hx:x.ev s.sl= .map n)(hn:s.h n=some (.mp es c))(hf:bN (.plain kS ks) (k.ev s.sl) es=some (some j))
 (h2:aZ P r Q ⟨bI s.sl dst V.undef,s.h.set n (.mp (es.set j ⟨k.ev s.sl,v.ev s.sl,(es.getD j default).b⟩) c),s.nx+1⟩):aZ P (⟨dst,none, .mp (.put kS ks x k v)⟩::r) Q s:=by
 unfold aZ;simp only[LOp.run,LOp.sem,MOp.sem,hx,hn,hf];exact⟨hk,h2⟩
end
theorem rX(o:Own)(vs:List ByteArray)(l:List ByteArray)(hl:l.length+vs.length≤1000000000)(n:Nat)(es:List ME)(c:Nat)(h:Hp)(nx:Nat)(hm:h n=some (.mp es c))(hs:gC es l):
 aR Tryz.prog 185 [.map n, .sl .leaf o (vs.map V.str)] h nx fun v h' nx'=>∃es' c',h' n=some (.mp es' c')∧gC es' (l++vs)∧∀m,m<nx→m≠n→h' m=h m:=by
 refine aB L.aWl fun hd=>?_;refine ZK ?_;have hn2:n<nx:=hd _ _ hm;refine aue (@jK ByteArray V) ?_
 refine aP (fun i:Nat=>aD 17 0 [(0, .map n),(6, .sl .leaf o (vs.map V.str)),(7, .int .i64 vs.length),(8, .int .i64 i)])
  (fun i hp nx1=>i≤vs.length∧nx≤nx1∧(∃es c,hp n=some (.mp es c)∧gC es (l++vs.take i))∧∀m,m<nx→m≠n→hp m=h m)
  (fun i=>vs.length-i) 0 ⟨Ko _,Kj _,⟨es,c,hm,by simpa using hs⟩,fun _ _ _=>rfl⟩ (by simp only[WkL,aD,jH,jI,jJ,jK,go_sem,reduceIte,jA,jB,jC,jD,reduceCtorEq,jE,jF]) ?_
 rintro i hp nx1 ⟨hi,hnx,⟨es1,c1,hm1,hs1⟩,hsm⟩;generalize hQ:bB _ _ _ _ _=Q0;refine Zk ?_;rcases Kp i vs.length with hlt|hge
 ·have hc:decide ((i:Int)<(vs.length:Int))=true:=dct;have hg:=aO V.str vs i hlt;have hw:IntKind.i64.wrap ((i:Int)+1)=((i+1:Nat):Int):=wrp;have htk:l++vs.take (i+1)=(l++vs.take i)++[vs[i]]:=by rw[Kg hlt,KZ]
  have hlen:(l++vs.take i).length≤l.length+i:=by rw[Ky,List.length_take];omega
  have hn3:n<nx1:=or;generalize vs[i]=x at hg htk;have hx:=hs1 x;cases hf:bN (.plain .leaf [.str]) (.str x) es1 with
  |none=>rw[hf] at hx;exact hx.elim
  |some r=>
   cases r with
   |none=>
    have hg0:iM false (.int .i64 0) es1 none= .int .i64 0:=rfl;have hw1:IntKind.i64.wrap ((0:Int)+1)=1:=wrp;have hs2:=Ab (b:=c1) hs1 hf;refine aue (e9 hc hg hlt hm1 hf hg0 hw1 (@jK ByteArray V) jG) ?_;refine nL (es:=es1) (c:=c1) (n:=n) rfl rfl (by simp only[hm1,go_sem,reduceIte,jA,jB,jC,jD,reduceCtorEq,jE,jF]) hf ?_;refine Zn ?_;refine aue hw ?_;rw[←hQ];refine aG (i+1) or ⟨hlt,or,⟨_,_,by simp only[go_sem,reduceIte,jA,jB,jC,jD,reduceCtorEq,jE,jF];rfl,by rw[htk];exact hs2⟩,fun m h1 h2=>?_⟩ (by simp only[WkL,aD,jH,jI,jJ,go_sem,reduceIte,jA,jB,jC,jD,reduceCtorEq,jE,jF]);simp only[Kb];rw[if_neg h2];exact hsm m h1 h2
   |some j=>
    rw[hf] at hx;obtain⟨p1,p2,m,p3,p4,p5⟩:=hx;have hg0:iM false (.int .i64 0) es1 (some j)= .int .i64 m:=p3;have hw1:IntKind.i64.wrap (m+1)=m+1:=wrp;have hs2:=Aa hs1 hf p3 (es1.getD j default).b;refine aue (e9 hc hg hlt hm1 hf hg0 hw1 (@jK ByteArray V) jG) ?_;refine AA (es:=es1) (c:=c1) (n:=n) (j:=j) rfl rfl (by simp only[hm1,go_sem,reduceIte,jA,jB,jC,jD,reduceCtorEq,jE,jF]) hf ?_;refine Zn ?_;refine aue hw ?_;rw[←hQ];refine aG (i+1) or ⟨hlt,or,⟨_,_,by simp only[go_sem,reduceIte,jA,jB,jC,jD,reduceCtorEq,jE,jF];rfl,by rw[htk];exact hs2⟩,fun m h1 h2=>?_⟩ (by simp only[WkL,aD,jH,jI,jJ,go_sem,reduceIte,jA,jB,jC,jD,reduceCtorEq,jE,jF]);simp only[Kb];rw[if_neg h2];exact hsm m h1 h2
 have hc:decide ((i:Int)<(vs.length:Int))=false:=dcf;refine aue hc ?_;rw[←hQ];refine au ?_;rw[Kv or] at hs1;exact⟨hp,Ka _,es1,c1,hm1,hs1,hsm⟩
def kL(l vs:List ByteArray):Bool:=vs.all fun v=>hZ v l
theorem yF:aE Tryz.prog 227=some (LB.aAU .leaf):=Zz
theorem D0:aE Tryz.prog 251=some (LB.ContainsFunc .leaf 227):=Zz
theorem uh(l:List ByteArray)(hl:l.length≤1000000000)(n:Nat)(es:List ME)(c:Nat)(h:Hp)(hm:h n=some (.mp es c))(hs:gC es l)(p:Nat)(hp:h p=some (.arr .leaf [.map n]))(x:ByteArray):aL Tryz.prog 252 [.str x, .ptr p .leaf 0 0] h (.bool (!hZ x l)):=by
 refine aI (fun L=>trivial) fun h' nx hh=>aB L.aTr fun hd=>?_;refine ZK ?_;have hm1:=hh _ _ hm rfl;have hp1:=hh _ _ hp rfl;have n1:n<nx:=hd _ _ hm1;have n2:p<nx:=hd _ _ hp1;obtain⟨r,m,q1,q2,q3,q4,q5⟩:=qH hs x;have hb:(m==0)= !hZ x l:=by
  cases k:hZ x l with
  |true=>exact bqf (fun e=>by rw[q5.1 e] at k;cases k)
  |false=>exact bqt (q5.2 k)
 refine aue (e6 hm1 hp1 q1 q2 hb n1) ?_;exact aC h' (leo hd) ⟨rfl,rfl⟩
theorem vX(l:List ByteArray)(hl:l.length≤1000000000)(n:Nat)(es:List ME)(c:Nat)(h:Hp)(hm:h n=some (.mp es c))(hs:gC es l)(o:Own)(vs:List ByteArray)(hv:vs.length≤1000000000):aL Tryz.prog 229 [.map n, .sl .leaf o (vs.map V.str)] h (.bool (kL l vs)):=by
 refine aI (fun L=>trivial) fun h' nx hh=>aB L.aUD fun hd=>?_;refine ZK ?_;have hm1:=hh _ _ hm rfl;have n1:n<nx:=hd _ _ hm1;refine aue trivial ?_;refine aJ (fX V.str (fun _=>rfl) D0 yF (fun x=> !hZ x l) o vs _ _ (h'.set nx (.arr .leaf [.map n])) (fun x _=>uh l hl n es c _ (by simp only[Kb];rw[if_neg or];exact hm1) hs nx (by simp[Kb]) x) hv) rfl (aH _) ?_;refine Zn ?_;refine au ?_;exact aC h' (leo hd) ⟨by unfold kL;rw[←m6];rfl,rfl⟩
def cV(e:Ex):ByteArray:=if e.op≠0∨e.kids≠ [] then ⟨#[]⟩ else e.t.x
theorem d6(e:Ex)(h:Hp):aL Tryz.prog 228 [e.v] h (.str (cV e)):=by
 refine aI (fun L=>trivial) fun h' nx hh=>aB L.aUE fun hd=>?_;obtain⟨op,t,o,ks⟩:=e;rw[Kc];refine ZK ?_;unfold cV;by_cases h1:op=0
 ·have g1:(op != 0)=false:=bnf;cases ks with
  |nil=>
   have hk:decide ((0:Int)<((0:Nat):Int))=false:=rfl;have hk':decide (((0:Nat):Int)>0)=false:=rfl;refine aue (e8 Ex.cs.eq_1 Ex.op.eq_1 Ex.t.eq_1 Ex.o.eq_1 Ex.kids.eq_1 g1 hk hk') ?_;refine aC h' (leo hd) ⟨?_,rfl⟩;rw[if_neg (by simp[h1,Kk,Kh])];rfl
  |cons a r=>
   obtain⟨ks,hks⟩:∃ks,ks=a::r:=⟨_,rfl⟩;have hk:decide ((0:Int)<(ks.length:Int))=true:=dct (by rw[hks];simp);rw[←hks];refine aue (e8 Ex.cs.eq_1 Ex.op.eq_1 Ex.t.eq_1 Ex.o.eq_1 Ex.kids.eq_1 g1 hk (@jK Ex V)) ?_;refine aC h' (leo hd) ⟨?_,rfl⟩;rw[if_pos (.inr (by rw[hks];simp[Kh]))];rfl
 have g1:(op != 0)=true:=bnt;refine aue (e6 Ex.cs.eq_1 Ex.op.eq_1 Ex.t.eq_1 Ex.o.eq_1 Ex.kids.eq_1 g1) ?_;refine aC h' (leo hd) ⟨?_,rfl⟩;rw[if_pos (.inl h1)];rfl
def iE(s:List ByteArray)(l:Li):Bool:=decide (l.k=3∧l.op=1)&&
 ((decide ((cV l.x).size≠0)&& !hZ (cV l.x) s&&kL s (nmL [] l.y.ts))||(decide ((cV l.y).size≠0)&& !hZ (cV l.y) s&&kL s (nmL [] l.x.ts)))
theorem zF(s:List ByteArray)(hl:s.length≤1000000000)(n:Nat)(es:List ME)(c:Nat)(h:Hp)(hm:h n=some (.mp es c))(hs:gC es s)(l:Li)(hr:bW l=true):aL Tryz.prog 186 [.map n,l.v] h (.bool (iE s l)):=by
 refine aI (fun L=>trivial) fun h' nx hh=>aB L.aWk fun hd=>?_;rw[Li.aAl];refine ZK ?_;have hm1:=hh _ _ hm rfl;have n1:n<nx:=hd _ _ hm1;obtain⟨b1,b2,b3⟩:=nY hr;have b4:=mO b2;have b5:=mO b3;have b6:=qK l.x.ts [];have b7:=qK l.y.ts [];simp only[jM] at b6 b7;have D1:∀h:Hp,aL Tryz.prog 228 [.agg [.int .i64 l.x.op, .str l.x.t.x, .int .i64 l.x.t.w.k, .int .i64 l.x.t.w.n, .str l.x.t.w.s, .sl (.agg 6) l.x.o (l.x.kids.map Ex.v)]] h (.str (cV l.x)):=fun h=>(show V.agg l.x.cs=_ from rfl)▸Kc l.x▸d6 l.x h;have D2:∀h:Hp,aL Tryz.prog 228 [.agg [.int .i64 l.y.op, .str l.y.t.x, .int .i64 l.y.t.w.k, .int .i64 l.y.t.w.n, .str l.y.t.w.s, .sl (.agg 6) l.y.o (l.y.kids.map Ex.v)]] h (.str (cV l.y)):=fun h=>(show V.agg l.y.cs=_ from rfl)▸Kc l.y▸d6 l.y h;obtain⟨o1,ho1⟩:=fH .leaf ((nmL [] l.x.ts).map V.str);obtain⟨o2,ho2⟩:=fH .leaf ((nmL [] l.y.ts).map V.str);have C1:∀h:Hp,aL Tryz.prog 230 [.agg [.int .i64 l.x.op, .str l.x.t.x, .int .i64 l.x.t.w.k, .int .i64 l.x.t.w.n, .str l.x.t.w.s, .sl (.agg 6) l.x.o (l.x.kids.map Ex.v)]] h (.sl .leaf o1 ((nmL [] l.x.ts).map V.str)):=fun h=>(show V.agg l.x.cs=_ from rfl)▸Kc l.x▸ho1▸zj l.x b2 h;have C2:∀h:Hp,aL Tryz.prog 230 [.agg [.int .i64 l.y.op, .str l.y.t.x, .int .i64 l.y.t.w.k, .int .i64 l.y.t.w.n, .str l.y.t.w.s, .sl (.agg 6) l.y.o (l.y.kids.map Ex.v)]] h (.sl .leaf o2 ((nmL [] l.y.ts).map V.str)):=fun h=>(show V.agg l.y.cs=_ from rfl)▸Kc l.y▸ho2▸zj l.y b3 h;have z1:=vS (cV l.x);have z2:=vS (cV l.y);obtain⟨r1,m1,p1,p2,p3,p4,p5⟩:=qH hs (cV l.x);obtain⟨r2,m2,q1,q2,q3,q4,q5⟩:=qH hs (cV l.y);have e1:(m1==0)= !hZ (cV l.x) s:=by
  cases k:hZ (cV l.x) s with
  |true=>exact bqf (fun e=>by rw[p5.1 e] at k;cases k)
  |false=>exact bqt (p5.2 k)
 have e2':(m2==0)= !hZ (cV l.y) s:=by
  cases k:hZ (cV l.y) s with
  |true=>exact bqf (fun e=>by rw[q5.1 e] at k;cases k)
  |false=>exact bqt (q5.2 k)
 unfold iE;generalize cV l.x=A at*;generalize cV l.y=B at*;have C5:aL Tryz.prog 229 [.map n, .sl .leaf o2 ((nmL [] l.y.ts).map V.str)] h' (.bool (kL s (nmL [] l.y.ts))):=vX s hl n es c h' hm1 hs o2 _ or;have C6:aL Tryz.prog 229 [.map n, .sl .leaf o1 ((nmL [] l.x.ts).map V.str)] h' (.bool (kL s (nmL [] l.x.ts))):=vX s hl n es c h' hm1 hs o1 _ or;have hle:=wF (leo hd:h'.le (h'.set nx (Blk.arr (Sh.agg 17) [.agg [.int .i64 l.k, .str l.a.r,trs l.a.o l.a.l, .int .i64 l.op, .int .i64 l.x.op, .str l.x.t.x, .int .i64 l.x.t.w.k, .int .i64 l.x.t.w.n, .str l.x.t.w.s, .sl (.agg 6) l.x.o (l.x.kids.map Ex.v), .int .i64 l.y.op, .str l.y.t.x, .int .i64 l.y.t.w.k, .int .i64 l.y.t.w.n, .str l.y.t.w.s, .sl (.agg 6) l.y.o (l.y.kids.map Ex.v), .int .i64 l.at_]])))
 replace C5:=C5.mono hle
 replace C6:=C6.mono hle
 (repeat' (first|(with_reducible first|refine stp ?_|refine cD ZM ?_|refine vH (fun _=>?_) (fun _=>?_))|((first|(with_reducible refine mJ ?_;first|refine kB rfl ?_ ?_|refine aJ (C1 _) rfl (aH _) ?_|refine aJ (C2 _) rfl (aH _) ?_|refine aJ C5 rfl (aH _) ?_|refine aJ C6 rfl (aH _) ?_|refine Zx ?_)|(with_reducible refine mL ?_;first|refine kF rfl ?_ ?_|refine bC (D1 _) rfl (bA _) ?_|refine bC (D2 _) rfl (bA _) ?_|refine ZX ?_)|refine Zy ?_)<;>try simp only[hm1,n1,z1,z2,p1,p2,q1,q2,e1,e2',go_sem,reduceIte,jA,jB,jC,jD,reduceCtorEq,jE,jF])|refine ZY ?_|omega))
 all_goals refine aC h' (leo hd) ⟨vb ?_,rfl⟩
 all_goals simp_all
theorem fj(p:ByteArray→Bool)(n:Nat)(l:List ByteArray)(g:Nat)(caps:List V)(h hc:Hp)(nx:Nat)(hn:h n=some (.arr .leaf (l.map V.str)))
 (hcn:hc n=none) (hch:Km hc h) (hcd:aV hc nx) (hp:∀x∈l,aL Tryz.prog g ([V.str x]++caps) hc (.bool (p x))) (hl:l.length≤1000000000):
 aR Tryz.prog 182 [.rs n .leaf 0 l.length, .fn (.func g) [] caps] h nx fun v h' nx'=>∃zs,v= .rs n .leaf 0 (l.filter fun x=> !(p x)).length∧h'=h.set n (.arr .leaf ((l.filter fun x=> !(p x)).map V.str++zs)):=by
 have aE1:h.set n (.arr .leaf (l.map V.str))=h:=by
  funext x;unfold Kb;split
  ·rename_i hx;rw[hx,hn]
  rfl
 refine aB L.aVC fun hd=>?_;have aZB:n<nx:=hd n _ hn;obtain⟨k1,k2⟩:=rg p l;refine ZK ?_;cases aBq:(bG p l==-1) with
 |true=>
  have aAZ:=k1.1 aBq
  (repeat' (first|(with_reducible first|refine stp ?_|refine cD ZM ?_|refine vH (fun _=>?_) (fun _=>?_))|((first|(with_reducible refine mJ ?_;first|refine kB rfl ?_ ?_|refine aJ (uU V.str (fun _=>rfl) yF p n l g caps h hn (fun x hx=>(hp x hx).mono hch) or) (by simp only[go_sem,reduceIte,jA,jB,jC,jD,reduceCtorEq,jE,jF]) (aH _) ?_|refine Zx ?_)|(with_reducible refine mL ?_;first|refine kF rfl ?_ ?_|refine ZX ?_)|refine Zy ?_)<;>try simp only[aBq,go_sem,reduceIte,jA,jB,jC,jD,reduceCtorEq,jE,jF])|refine ZY ?_|omega))
  have hfl:(l.filter fun x=> !(p x))=l:=KV.2 (fun x hx=>by simp[aAZ x hx]);refine aC h (Ka _) ⟨[],?_,?_⟩
  ·simp only[hfl,go_sem,reduceIte,jA,jB,jC,jD,reduceCtorEq,jE,jF]
  rw[hfl,KO,aE1]
 |false=>
  obtain⟨i0,hi0⟩:∃i:Nat,bG p l=i:=by
   cases hf:l.findIdx? p with
   |none=>exact absurd (k1.2 (by simpa using KA.1 hf)) (by rw[aBq];simp)
   |some j=>exact⟨j,by unfold bG;rw[hf]⟩
  obtain⟨b1,b2,b3⟩:=k2 i0 hi0;have hw0:IntKind.i64.wrap ((i0:Int)+1)=((i0+1:Nat):Int):=by rw[fI]<;>omega
  rw[hi0] at aBq
  (repeat' (first|(with_reducible first|refine stp ?_|refine cD ZM ?_|refine vH (fun _=>?_) (fun _=>?_))|((first|(with_reducible refine mJ ?_;first|refine kB rfl ?_ ?_|refine aJ (uU V.str (fun _=>rfl) yF p n l g caps h hn (fun x hx=>(hp x hx).mono hch) or) (by simp only[go_sem,reduceIte,jA,jB,jC,jD,reduceCtorEq,jE,jF]) (aH _) ?_|refine Zx ?_)|(with_reducible refine mL ?_;first|refine kF rfl ?_ ?_|refine ZX ?_)|refine Zy ?_)<;>try simp only[aBq,hi0,hw0,go_sem,reduceIte,jA,jB,jC,jD,reduceCtorEq,jE,jF])|refine ZY ?_|omega))
  refine aP (fun q:Nat×Nat×List ByteArray=>aD 42 0 [(0, .rs n .leaf 0 l.length),(1, .fn (.func g) [] caps),(5, .int .i64 q.1),(6, .int .i64 q.2.1)])
   (fun q hp2 nx1=>q.1+1≤q.2.1∧q.2.1≤l.length∧q.2.2.length=l.length∧q.2.2.take q.1=(l.take q.2.1).filter (fun x=> !(p x))∧q.2.2.drop q.1=l.drop q.1∧hp2 n=some (.arr .leaf (q.2.2.map V.str))∧nx≤nx1∧∀x,x≠n→x<nx→hp2 x=h x)
   (fun q=>l.length-q.2.1) (i0,i0+1,l) ⟨Kj _,b1,rfl,?_,rfl,hn,Kj _,fun _ _ _=>rfl⟩ ?_ ?_
  ·dsimp only;rw[Kg b1,KI,KV.2 (fun x hx=>by simp[b3 x hx])];simp[b2]
  ·simp only[WkL,aD,jH,jI,jJ,go_sem,reduceIte,jA,jB,jC,jD,reduceCtorEq,jE,jF]
  rintro⟨i,j,xs⟩ hp2 nx1 ⟨a1,a2,a3,a4,a5,a6,a7,a8⟩;generalize hQ:bB _ _ _ _ _=Q0;dsimp only at a1 a2 a3 a4 a5 a6;refine Zk ?_;have aO2:Km hc hp2:=fun m kk hm hbm=>by
   have hmn:m≠n:=fun e2=>by rw[e2,hcn] at hm;cases hm
   rw[a8 m hmn (hcd m _ hm)];exact hch m kk hm hbm
  have hcf:∀m,nx≤m→hc m=none:=fun m hm=>aV.none hcd hm;rcases Kp j l.length with hlt|hge
  ·have hcc:decide ((j:Int)<(l.length:Int))=true:=decide_eq_true or;have hxj:xs[j]'or=l[j]:=by
    have e1:xs[j]'or=(xs.drop i)[j-i]'(by simp;omega):=by simp[show i+(j-i)=j by omega]
    have e2:l[j]=(l.drop i)[j-i]'(by simp;omega):=by simp[show i+(j-i)=j by omega]
    rw[e1,e2];congr 1
   have hg:(xs.map V.str).getD j (.tup [])=V.str l[j]:=by rw[aO V.str xs j or,hxj]
   have hw:IntKind.i64.wrap ((j:Int)+1)=((j+1:Nat):Int):=by rw[fI]<;>omega
   have hw2:IntKind.i64.wrap ((i:Int)+1)=((i+1:Nat):Int):=by rw[fI]<;>omega
   have hnl:n<nx1:=or;have hil:i<l.length:=or;have htk:l.take (j+1)=l.take j++[l[j]]:=Kg hlt
   (repeat' (first|(with_reducible first|refine stp ?_|refine cD ZM ?_|refine vH (fun _=>?_) (fun _=>?_))|((first|(with_reducible refine mJ ?_;first|refine kB rfl ?_ ?_|refine cM rfl (hp l[j] (Ku _)) (by simp only[go_sem,reduceIte,jA,jB,jC,jD,reduceCtorEq,jE,jF]) (by repeat (first|exact aO2|refine Cz ?_ (by first|exact hcn|exact hcf _ or) _)) ?_|refine Zx ?_)|(with_reducible refine mL ?_;first|refine kF rfl ?_ ?_|refine ZX ?_)|refine Zy ?_)<;>try simp only[hcc,hg,hw,hw2,hnl,hil,hlt,a6,a3,jK,jG,go_sem,reduceIte,jA,jB,jC,jD,reduceCtorEq,jE,jF])|refine ZY ?_|omega))
   ·rename_i hx;have hx:p l[j]=false:=by simpa using hx
    rw[←hQ];refine aG (i+1,j+1,xs.set i l[j]) Zw ⟨Zw,Zw,by simpa using a3,?_,?_,?_,or,fun x hxn hxl=>?_⟩ ?_
    ·dsimp only;rw[htk,KI,←a4,Kg (by simp;omega),List.getElem_set_self,List.take_set_of_le (Kj _)];simp[hx]
    ·dsimp only;rw[List.drop_set_of_lt or];have:=congrArg (Qr 1) a5;rwa [Qi,Qi] at this
    ·simp only[hnl,go_sem,reduceIte,jA,jB,jC,jD,reduceCtorEq,jE,jF];rw[List.map_set,aO V.str xs i or];rfl
    ·have h1:(x=nx1)=False:=eq_false or;simp only[hxn,h1,go_sem,reduceIte,jA,jB,jC,jD,reduceCtorEq,jE,jF];exact a8 x hxn hxl
    simp only[WkL,aD,jH,jI,jJ,go_sem,reduceIte,jA,jB,jC,jD,reduceCtorEq,jE,jF]
   rename_i hx;have hx:p l[j]=true:=by simpa using hx
   rw[←hQ];refine aG (i,j+1,xs) Zw ⟨Zw,Zw,a3,?_,a5,?_,or,fun x hxn hxl=>?_⟩ ?_
   ·dsimp only;rw[htk,KI,←a4];simp[hx]
   ·exact a6
   ·exact a8 x hxn hxl
   simp only[WkL,aD,jH,jI,jJ,go_sem,reduceIte,jA,jB,jC,jD,reduceCtorEq,jE,jF]
  have hcc:decide ((j:Int)<(l.length:Int))=false:=decide_eq_false or;rw[show j=l.length by omega,Kt] at a4;have hil:i<l.length:=or;have aWE:(i=l.length)=False:=eq_false or;refine aue hcc ?_;rw[←hQ];refine aue (ee4 aWE hil a6 a3) ?_;have hlen:(l.filter fun x=> !(p x)).length=i:=by rw[←a4];simp;omega
  refine aC (h.set n (.arr .leaf ((l.filter fun x=> !(p x)).map V.str++(Qh (l.length-i) (.str ⟨#[]⟩)++(xs.map V.str).drop (i+(l.length-i)))))) ?_ ⟨_,?_,rfl⟩
  ·intro x b hxb;by_cases hxn:x=n
   ·subst hxn;simp only[go_sem,reduceIte,jA,jB,jC,jD,reduceCtorEq,jE,jF] at hxb⊢;rw[←hxb,←a4,List.map_take,KZ]
   have hxl:x<nx:=hd x b (by simpa only[Kb,if_neg hxn] using hxb);simp only[hxn,go_sem,reduceIte,jA,jB,jC,jD,reduceCtorEq,jE,jF] at hxb⊢;rw[a8 x hxn hxl];exact hxb
  simp only[hlen,KY,go_sem,reduceIte,jA,jB,jC,jD,reduceCtorEq,jE,jF]
theorem ry(p:ByteArray→Bool)(g:Nat)(caps:List V)(h:Hp):
 aL Tryz.prog 182 [.sl .leaf .nil [], .fn (.func g) [] caps] h (.sl .leaf .nil []):=by
 refine aI (fun L=>by simp[V.names,bQ]) fun h' nx hh=>aB L.aVC fun hd=>?_;have aBq:(bG p ([]:List ByteArray)==-1)=true:=by simp[bG]
 have hi:aL Tryz.prog 227 [.sl .leaf .nil [], .fn (.func g) [] caps] h' (.int .i64 (bG p ([]:List ByteArray))):=by
  have:=mX V.str (fun _=>rfl) yF p .nil [] g caps h' (fun x hx=>by cases hx) Zm;simpa using this
 refine ZK ?_;have C5:=hi;refine aue aBq ?_;exact aC h' (Ka _) ⟨rfl,rfl⟩
theorem o9(s:List ByteArray)(n:Nat)(es:List ME)(c:Nat)(h:Hp)(hm:h n=some (.mp es c))(hs:gC es s)(b:Bool)(p q:Nat)(hp:h p=some (.arr .leaf [.map n]))(hq:h q=some (.arr .leaf [.bool b]))(x:ByteArray):aL Tryz.prog 184 [.str x, .ptr p .leaf 0 0, .ptr q .leaf 0 0] h (.bool (!(hZ x s==b))):=by
 refine aI (fun L=>trivial) fun h' nx hh=>aB L.aWm fun hd=>?_;refine ZK ?_;have hm1:=hh _ _ hm rfl;have hp1:=hh _ _ hp rfl;have hq1:=hh _ _ hq rfl;have n1:n<nx:=hd _ _ hm1;have n2:p<nx:=hd _ _ hp1;have n3:q<nx:=hd _ _ hq1;obtain⟨r,m,q1,q2,q3,q4,q5⟩:=qH hs x;have hb:decide (0<m)=hZ x s:=by
  cases k:hZ x s with
  |true=>exact dct (by have:m≠0:=fun e=>(by rw[q5.1 e] at k;cases k);omega)
  |false=>exact dcf (by have:=q5.2 k;omega)
 have hv:veq (.plain .leaf [.bool]) (.bool (hZ x s)) (.bool b)=some (hZ x s==b):=rfl;refine aue (e7 hm1 hp1 hq1 q1 q2 hb hv) ?_;exact aC h' (leo hd) ⟨rfl,rfl⟩
def dN(r:Ru)(s:List ByteArray)(b:Bool):List ByteArray:=r.vars.filter fun v=>hZ v s==b
theorem zI(r:Ru)(hr:dW r=true)(s:List ByteArray)(n:Nat)(es:List ME)(c:Nat)(h:Hp)(hm:h n=some (.mp es c))(hs:gC es s)(b:Bool):aL Tryz.prog 120 [r.v, .map n, .bool b] h (.sl .leaf (frO r.vars) ((dN r s b).map V.str)):=by
 have hnm:∀L,(V.sl .leaf (frO r.vars) ((dN r s b).map V.str)).names L:=fun L=>⟨fun m e=>(by unfold frO at e;split at e<;>cases e),cK (f:=V.str) (fun _=>trivial) _⟩;refine lL hnm fun h' nx hh=>aB L.aXh fun hd=>?_;have hm1:=hh _ _ hm rfl;have n1:n<nx:=hd _ _ hm1;have hvl:r.vars.length≤16777270:=by have:=ny hr r.b.length;rwa [Kt] at this
 refine ZK ?_;obtain⟨X,hX⟩:∃X,r.v=X:=⟨_,rfl⟩;have hf:X.fits (.agg 6)=true:=by rw[←hX];rfl
 have hV:=fun h nx=>xa r hr h nx;rw[hX] at hV⊢;refine bK ?_;generalize hR1:mT _ _=R1;refine aue (e2 hf n1) ?_;rw[←hR1];clear hR1;refine aY (bK ?_);generalize hRC:mT _ _=RC;refine aue (e2 hf n1) ?_;refine aU ((hV _ (nx+3)).dom.mono ?_);rintro v h1 nx1 hle1 ⟨⟨aAy,hsm⟩,hd1,_⟩;unfold bT;refine Zn ?_;have hb0:h1 nx=some (.arr (.agg 6) [X]):=by rw[hsm nx or];simp only[go_sem,reduceIte,jA,jB,jC,jD,reduceCtorEq,jE,jF]
 have hb1:h1 (nx+1)=some (.arr .leaf [.map n]):=by rw[hsm (nx+1) or];simp only[go_sem,reduceIte,jA,jB,jC,jD,reduceCtorEq,jE,jF]
 have hb2:h1 (nx+2)=some (.arr .leaf [.bool b]):=by rw[hsm (nx+2) or];simp only[go_sem,reduceIte,jA,jB,jC,jD,reduceCtorEq,jE,jF]
 have aCI:h'.le h1:=fun m bl e=>by
  have:=hd m bl e;rw[hsm m or];simp only[Kb];rw[if_neg or,if_neg or,if_neg or];exact e
 have hm2:h1 n=some (.mp es c):=aCI _ _ hm1;rcases aAy with⟨q1,rfl⟩|⟨q1,id,q2,rfl,q3⟩
 ·have hv0:r.vars=[]:=by simpa using q1
  refine au ?_;refine aJ (ry (fun x=> !(hZ x s==b)) _ _ _) rfl (aH _) ?_;refine Zn ?_;refine au ?_;rw[←hRC];refine au ?_;refine aC h1 (Ka _) ⟨?_,aCI⟩;unfold dN;simp only[hv0,go_sem,reduceIte,jA,jB,jC,jD,reduceCtorEq,jE,jF];rfl
 have hid:id<nx1:=hd1 _ _ q3;refine au ?_;have hlm:(r.vars.map V.str).length=r.vars.length:=jK ..;rw[hlm]
 refine aU ((fj (fun x=> !(hZ x s==b)) id r.vars _ _ h1 (h1.del id) nx1 q3 (by simp[Kf]) (fun m bl e _=>by simp only[Kf] at e;split at e<;>first|cases e|exact e) (fun m bl e=>by simp only[Kf] at e;split at e<;>first|cases e|exact hd1 m bl e)
  (fun x _=>o9 s n es c _ (by simp only[Kf];rw[if_neg or];exact hm2) hs b (nx+1) (nx+2) (by simp only[Kf];rw[if_neg or];exact hb1) (by simp only[Kf];rw[if_neg or];exact hb2) x) or).mono ?_)
 rintro v h2 nx2 aAV ⟨zs,rfl,rfl⟩;unfold bT;refine Zn ?_;refine au ?_;rw[←hRC];have hfl:(r.vars.filter fun x=> !!(hZ x s==b))=dN r s b:=by simp[dN]
 rw[hfl];refine dO (oY (t:=6) (n:=id) (k:= .leaf) (off:=0) (len:=(dN r s b).length) (es:=(dN r s b).map V.str++zs) rfl (by simp only[go_sem,reduceIte,jA,jB,jC,jD,reduceCtorEq,jE,jF]) Zm) ?_;have htk:(Qr 0 ((dN r s b).map V.str++zs)).take (dN r s b).length=(dN r s b).map V.str:=by rw[Qg,List.take_append_of_le_length Zm];exact Kv Zm
 rw[htk];refine au ?_;have hne:r.vars≠ []:=fun e=>q1 (by rw[e];rfl);have hfr:frO r.vars= .free:=by cases hv:r.vars with|nil=>exact absurd hv hne|cons a l=>rfl
 refine aC _ (Ka _) ⟨?_,fun m bl e=>?_⟩
 ·simp only[hfr,go_sem,reduceIte,jA,jB,jC,jD,reduceCtorEq,jE,jF];rfl
 have:=hd m bl e;simp only[Kf,Kb];rw[if_neg or,if_neg or];exact aCI _ _ e
end Go.Proofs.YtlhedpgobaellaaGreatDoor
