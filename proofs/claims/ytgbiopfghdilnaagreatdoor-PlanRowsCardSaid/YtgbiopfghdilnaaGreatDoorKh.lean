/-
Texts of this proof,one behind the other. No conditions.
-/
import Derived.Test.YtgbiopfghdilnaaGreatDoorKf
open Go.Proofs.YtgbiopfghdilnaaGreatDoor.Tr renaming v→Ka,aAK→Km,aAA→Ko
open Go.Proofs.YtgbiopfghdilnaaGreatDoor.Hp renaming le_refl→Kb,set→Kc,same→Kf,del→Kh,has→Kv,none→KA
open Go.Proofs.YtgbiopfghdilnaaGreatDoor.Ex renaming aAV→Kd,ts→Ke,aAA→Ki,kids→Kj,op→Kp
open List renaming take_succ_eq_append_getElem→Kg,take_length→Kt,getElem_mem→Ku,getD_eq_getElem?_getD→Kw,drop_eq_getElem_cons→Kx,take_of_length_le→Ky,map_append→KB,length_append→KC,findIdx?_eq_some_iff_getElem→KD,findIdx?_eq_none_iff→KE,getElem?_eq_getElem→KF,map_nil→KG,sizeOf_lt_of_mem→KI,getElem_append_right→KJ,flatMap_append→KK,mem_take_iff_getElem→KM,getElem_append_left→KN,take_zero→KO,drop_eq_nil_of_le→KP,map_cons→KQ,cons_append→KR,filter_append→KS,not_mem_nil→KU,length_cons→KV,length_eq_zero_iff→KW,map_map→KX,mem_append→KY,length_nil→KZ,nil_append→Qa,append_nil→Qb,take_append_drop→Qc,mem_cons→Qe,replicate_succ→Qf,replicate_zero→Qg,filter_eq_self→Qh,mem_map→Qi,append_assoc→Qm,drop_zero→Qo,replicate→Qp,drop_drop→Qq,all_cons→Qu,length→Qz,drop→QA
open Nat renaming le_refl→Kk,zero_le→Kq,lt_or_ge→Ks,zero_add→Qj,add_zero→Qk,sub_zero→Ql,reduceAdd→Qr,reduceSub→Qt,add_assoc→Qw,sub_self→Qy
open Go.IntKind renaming wrap→Kz
open Bool renaming eq_iff_iff→KH,true_and→Qv
open Int renaming toNat_zero→Qd
open Function renaming comp→Qx
open Nat renaming reduceAdd→jA,reduceSub→jB,reduceLT→jC,reduceLeDiff→jD,reduceEqDiff→jE
open Int renaming reduceToNat→jF,toNat_natCast→jG,natCast_add→jH,natCast_one→jI,natCast_zero→jJ
open List renaming length_map→jK,length_cons→jL,length_nil→jM,replicate_succ→jN,replicate_zero→jO,cons_append→jP,nil_append→jQ
set_option linter.all false
set_option maxHeartbeats 8000000
namespace Go.Proofs.YtgbiopfghdilnaaGreatDoor
open Go.RowKit Go.Sort
attribute [local irreducible] Kz
theorem Fj(s:ByteArray)(h:Hp):aK Tryz.prog 159 [.str s] h (.fn (.func 185) [] [.ept .leaf [.str s] 0 0]):=by
 show aK Tryz.prog 159 [.str s] h (.fn (.func 185) [] [.ept .leaf [(V.str s).loose] 0 0]);refine aH (fun L=>?_) fun h' nx hh=>jr (aB L.aZl fun hd=>?_)
 ·simp[V.loose,V.names,bI]
 refine ZK ?_;refine au ?_;refine aC _ (Kb _) ⟨nx,Kk _,?_,rfl⟩;rfl
noncomputable def bc(s:ByteArray):List (List V):=(fI jT s (bW s 0)).1.map (fun t=>[t.v, .nilIface])++
 (match (fI jT s (bW s 0)).2 with
  |none=>[]
  |some a=>[[Tk.v ⟨0,⟨#[]⟩,a⟩, .iface 100 (.int .i64 2)]])
theorem Fk(s:ByteArray)(hs:s.size≤4000):Ft Tryz.prog 185 [.ept .leaf [.str s] 0 0] KA (bc s):=by
 intro yn J D hbJ hnJ hnD hJ h0 nx0 h0J hd0;refine aB L.aZJ fun hd=>?_;refine ZK ?_;have C1:=fun h=>ma s hs 0 (Kq _) h;refine au ?_;obtain⟨T,hT⟩:∃T,fI jT s (bW s 0)=T:=⟨_,rfl⟩;have hV:bc s=T.1.map (fun t=>[t.v, .nilIface])++(match T.2 with
  |none=>[]
  |some a=>[[Tk.v ⟨0,⟨#[]⟩,a⟩, .iface 100 (.int .i64 2)]]):=by rw[←hT];rfl
 refine aO (fun p:Nat×Nat=>aD 36 0 [(0, .yld yn),(1, .ept .leaf [.str s] 0 0),(3, .int .i64 p.2)]) (fun p h nx=>p.2≤s.size∧p.1≤T.1.length∧T.1.drop p.1=(fI jT s p.2).1∧T.2=(fI jT s p.2).2∧J p.1 h nx∧aS h nx) (fun p=>s.size-p.2) (0,bW s 0) ⟨tc (Kq _),Kq _,by rw[hT];rfl,by rw[hT],hnJ _ _ _ _ h0J (Kk _),hd0.up (Kk _)⟩ (by simp only[WkL,aD,jH,jI,jJ,go_sem,reduceIte,jA,jB,jC,jD,reduceCtorEq,jE,jF]) ?_;rintro⟨i,a⟩ h nx ⟨ha,hi,h1,h2,hj,hdm⟩;simp only at ha hi h1 h2 hj hdm;generalize hQ:aV _ _ _ _ _=Q0;refine Zk ?_;rcases Ks a s.size with hlt|hge
 ·have hc:decide ((a:Int)<(s.size:Int))=true:=dct;have ha':(a:Int)≤(s.size:Int):=or;have C1:=fun h=>Co (s.extract a s.size) (by rw[cV];omega) (by rw[cV];omega) h;obtain⟨k,t,hn⟩:∃k t,cD jT (s.extract a s.size)=(k,t):=⟨_,_,rfl⟩;rw[hn] at C1;simp only[Tk.v] at C1;unfold L.aDW;generalize hRC:aR.seq (aR.seq (aR.ops L.aDV) _) _=RC;refine aue (e5 hc hlt ha' (jG a) (Nat.le_of_lt hlt)) ?_;rw[←hRC];refine bZ ?_;by_cases h0:k=0
  ·subst h0;rw[wF hlt (by rw[hn])] at h1 h2;have hlen:T.1.length=i:=by
    have:T.1.length≤i:=by simpa using h1
    omega
   have hy:∀NX,nx≤NX→dZ Tryz.prog yn [.agg [.int .i64 0, .str ⟨#[]⟩, .int .i64 a], .iface 100 (.int .i64 2)] h NX fun v h' nx'=>((v= .bool true∧J (i+1) h' nx')∨(v= .bool false∧D h' nx'))∧aS h' nx'∧NX≤nx':=fun NX hNX=>by
    have:=(hJ i (by rw[hV,h2];simp;omega) h NX (hnJ i h nx NX hj hNX) (hdm.up hNX)).dom;have e:(bc s)[i]'(by rw[hV,h2];simp;omega)=[.agg [.int .i64 0, .str ⟨#[]⟩, .int .i64 a], .iface 100 (.int .i64 2)]:=by
     simp only[hV,h2];rw[KJ (by simp;omega)];simp[hlen,Tk.v]
    rw[e] at this;exact this
   have hk0:((0:Int)==0)=true:=rfl;refine aue hk0 ?_;refine pD rfl ?_;refine((hy _ Zw).weaken (leo hdm)).mono ?_;rintro v h' nx' hnx ⟨hq,bAt,_⟩;unfold cY;have aAk:J (i+1) h' nx'→J (bc s).length h' nx':=fun q=>by
    have:(bc s).length=i+1:=by rw[hV,h2];simp;omega
    rw[this];exact q
   refine au ?_;rw[←hQ];refine au ?_;exact⟨h',Kb _,hq.imp (fun q=>aAk q.2) (fun q=>q.2)⟩
  have aR3:=oI hlt hn h0;rw[aR3] at h1 h2;have hik:i<T.1.length:=by
   rcases Ks i T.1.length with q|q
   ·exact q
   rw[List.drop_of_length_le q] at h1;cases h1
  have hTi:T.1[i]=⟨k,t,a⟩:=by
   rw[Kx hik] at h1;injection h1
  have hTd:T.1.drop (i+1)=(fI jT s (bW s (a+t.size))).1:=by
   rw[Kx hik] at h1;injection h1
  have htz:=kP (κ:=jT) (r:=s.extract a s.size) (by rw[hn];exact h0);rw[hn,cV] at htz;dsimp only at htz;have hsk:=tc (s:=s) (i:=a+t.size) or;have bFb:=vM s (a+t.size);have hVl:i<(bc s).length:=by rw[hV];simp;omega
  have hy:∀NX,nx≤NX→dZ Tryz.prog yn [.agg [.int .i64 k, .str t, .int .i64 a], .nilIface] h NX fun v h' nx'=>((v= .bool true∧J (i+1) h' nx')∨(v= .bool false∧D h' nx'))∧aS h' nx'∧NX≤nx':=fun NX hNX=>by
   have:=(hJ i hVl h NX (hnJ i h nx NX hj hNX) (hdm.up hNX)).dom;have e:(bc s)[i]'hVl=[.agg [.int .i64 k, .str t, .int .i64 a], .nilIface]:=by
    simp only[hV];rw[KN (by simpa using hik)];simp[hTi,Tk.v]
   rw[e] at this;exact this
  have hk0:(k==0)=false:=by simpa using h0
  generalize hRQ:kH (lwp Tryz.prog _) _=RQ;refine aue hk0 ?_;rw[←hRQ];refine fX (di (t:=4) (n:=nx) (k:= .agg 3) (i:=0) (o:=0) (es:=[.agg [.int .i64 k, .str t, .int .i64 a]]) rfl (by simp only[go_sem,reduceIte,jA,jB,jC,jD,reduceCtorEq,jE,jF])) ?_;refine Zn ?_;have C2:=fun h=>ma s hs (a+t.size) or h;have hw:IntKind.i64.wrap ((a:Int)+(t.size:Int))=((a+t.size:Nat):Int):=wrp;refine au ?_;refine pD rfl ?_;refine((hy _ Zw).weaken ?_).mono ?_
  ·exact leo hdm
  rintro v h' nx' hnx ⟨hq,bAt,_⟩;unfold cY;rcases hq with⟨rfl,hj'⟩|⟨rfl,hD⟩
  ·refine aue hw ?_;rw[←hQ];exact aF (i+1,bW s (a+t.size)) (by simp only;omega) ⟨hsk,hik,hTd,h2,hnJ _ _ _ _ hj' or,bAt.up or⟩ (by simp only[WkL,aD,jH,jI,jJ,go_sem,reduceIte,jA,jB,jC,jD,reduceCtorEq,jE,jF])
  refine au ?_;rw[←hQ];refine au ?_;exact⟨h',Kb _, .inr hD⟩
 have hc:decide ((a:Int)<(s.size:Int))=false:=dcf;refine aue hc ?_;rw[←hQ];refine au ?_;rw[jY hge] at h1 h2;have hlen:(bc s).length=i:=by
  rw[hV,h2];have:T.1.length≤i:=by simpa using h1
  simp;omega
 exact⟨h,Kb _, .inl (by rw[hlen];exact hj)⟩
theorem xR{t u v:Nat}{k1 k2 k3:Sh}{R:V→Hp→Nat→Prop}{s:St}(o1:(bB.load k1 (.slot t)).ok s.sl s.h)(o2:(bB.load k2 (.slot u)).ok s.sl s.h)(o3:(bB.load k3 (.slot v)).ok s.sl s.h)(h':Hp)(hle:h'.le s.h)
 (hR:R (.tup [(bB.load k1 (.slot t)).out s.sl s.h,(bB.load k2 (.slot u)).out s.sl s.h,(bB.load k3 (.slot v)).out s.sl s.h]) h' s.nx):pR [.cell t k1, .cell u k2, .cell v k3] R .ret s:=by
 have e3:=fun a b=>bB.aAg (R:=fun x=>∃h',h'.le s.h∧R (iZ [a,b,x]) h' s.nx) o3;have e2:=fun a=>bB.aAg (R:=fun x=>(bB.load k3 (.slot v)).sem s.sl s.h fun y=>∃h',h'.le s.h∧R (iZ [a,x,y]) h' s.nx) o2;have:=bB.aAg (R:=fun x=>(bB.load k2 (.slot u)).sem s.sl s.h fun y=>(bB.load k3 (.slot v)).sem s.sl s.h fun z=>∃h',h'.le s.h∧R (iZ [x,y,z]) h' s.nx) o1 (e2 _ (e3 _ _ ⟨h',hle,hR⟩));exact this
theorem Gl{h:Hp}{n0 n:Nat}{o:Own}{es:List V}(a:Acc h n0 o es)(hn:n<n0){b:Blk}:Acc (h.set n b) n0 o es:=by
 rcases a with a|⟨h1,id,h2,h3,h4⟩
 ·exact .inl a
 exact .inr ⟨h1,id,h2,h3,by simp only[Kc];rw[if_neg or];exact h4⟩
def rgF(nx1 a:Nat):List (Nat×Nat×V):=[(0,18, .ptr nx1 (.agg 3) 0 2),(1,19, .int .i64 a),(2,20, .iface 100 (.int .i64 2))]
def rgX(nx nx1:Nat):List (Nat×V):=[(2, .ptr nx .leaf 0 0),(3, .ptr (nx+1) .leaf 0 0),(4, .ptr (nx+2) .leaf 0 0),(6, .ptr nx1 (.agg 3) 0 0),(7, .iface 100 (.int .i64 2))]
def frO{α:Type}(l:List α):Own:=if l.isEmpty=true then .nil else .free
noncomputable def tF(s:ByteArray):V:=
 if 4000<s.size then .tup [.sl (.agg 3) .nil [], .int .i64 4000, .iface 100 (.int .i64 3)]
 else match (fI jT s (bW s 0)).2 with
  |none=> .tup [.sl (.agg 3) (frO (fI jT s (bW s 0)).1) ((fI jT s (bW s 0)).1.map Tk.v), .int .i64 0, .nilIface]
  |some a=> .tup [.sl (.agg 3) .nil [], .int .i64 a, .iface 100 (.int .i64 2)]
theorem ve(s:ByteArray)(L:Nat→Prop):(tF s).names L:=by
 unfold tF;split
 ·simp[V.names,bI]
 split
 ·refine⟨⟨?_,aT (fun x=>Tk.aAK L x) _⟩,trivial,trivial,trivial⟩;intro n e;unfold frO at e;split at e<;>cases e
 simp[V.names,bI]
theorem BA{κ:ByteArray→Int}{s:ByteArray}:∀(n i:Nat),s.size-i≤n→(fI κ s i).1.length≤s.size-i
 |0,i,h=>by rw[jY or];simp
 |n+1,i,h=>by
  rcases Ks i s.size with hi|hi
  ·obtain⟨k,t,hn⟩:∃k t,cD κ (s.extract i s.size)=(k,t):=⟨_,_,rfl⟩;by_cases h0:k=0
   ·rw[wF hi (by rw[hn];exact h0)];simp
   have hz:=kP (κ:=κ) (r:=s.extract i s.size) (by rw[hn];exact h0);rw[hn] at hz;dsimp only at hz;rw[oI hi hn h0];have:=vM s (i+t.size);have:=BA (κ:=κ) (s:=s) n (bW s (i+t.size)) or;simp only[jL];omega
  rw[jY hi];simp
theorem yE(s:ByteArray)(h:Hp):aK Tryz.prog 115 [.str s] h (tF s):=by
 refine bK (ve s) fun h' nx hh=>aB L.bCc fun hd=>?_;refine ZK ?_;by_cases hs:4000<s.size
 ·have g1:decide ((4000:Int)<(s.size:Int))=true:=dct;refine aue g1 ?_;refine xR (by simp only[go_sem,reduceIte,jA,jB,jC,jD,reduceCtorEq,jE,jF]) (by simp only[go_sem,reduceIte,jA,jB,jC,jD,reduceCtorEq,jE,jF]) (by simp only[go_sem,reduceIte,jA,jB,jC,jD,reduceCtorEq,jE,jF]) _ (Kb _) ⟨?_,leo hd⟩;simp only[V.aAv,V.loose,go_sem,reduceIte,jA,jB,jC,jD,reduceCtorEq,jE,jF];unfold tF;rw[if_pos hs]
 have g1:decide ((4000:Int)<(s.size:Int))=false:=dcf;have hit:=Fk s or;have C1:=fun h=>Fj s h;refine aue g1 ?_;obtain⟨T,hT⟩:∃T,fI jT s (bW s 0)=T:=⟨_,rfl⟩;have hTl:T.1.length≤4000:=by
  have:=BA (κ:=jT) (s:=s) _ (bW s 0) (Kk _);rw[hT] at this;omega
 have hV:bc s=T.1.map (fun t=>[t.v, .nilIface])++(match T.2 with
  |none=>[]
  |some a=>[[Tk.v ⟨0,⟨#[]⟩,a⟩, .iface 100 (.int .i64 2)]]):=by rw[←hT];rfl
 have hLV:tF s=match T.2 with
  |none=> .tup [.sl (.agg 3) (frO T.1) (T.1.map Tk.v), .int .i64 0, .nilIface]
  |some a=> .tup [.sl (.agg 3) .nil [], .int .i64 a, .iface 100 (.int .i64 2)]:=by unfold tF;rw[if_neg hs,hT]
 rw[hLV];have aAo:∀n,nx≤n→h' n=none:=fun n hn=>aS.none hd hn;obtain⟨I,hI⟩:∃I:Nat→Hp→Nat→Prop,∀i h nx1,I i h nx1↔(i≤T.1.length∧h'.le h∧h nx=some (.arr .leaf [.sl (.agg 3) .nil []])∧h (nx+1)=some (.arr .leaf [.int .i64 0])∧h (nx+2)=some (.arr .leaf [.nilIface])∧∃o,h (nx+3)=some (.arr .leaf [.sl (.agg 3) o ((T.1.take i).map Tk.v)])∧Acc h (nx+5) o ((T.1.take i).map Tk.v)):=⟨_,fun _ _ _=>Iff.rfl⟩;obtain⟨E,hE⟩:∃E:bN→Hp→Nat→Prop,∀e h nx1,E e h nx1↔(e= .ret∧h'.le h∧∃a,T.2=some a∧h nx=some (.arr .leaf [.sl (.agg 3) .nil []])∧h (nx+1)=some (.arr .leaf [.int .i64 a])∧h (nx+2)=some (.arr .leaf [.iface 100 (.int .i64 2)])):=⟨_,fun _ _ _=>Iff.rfl⟩;have h0:∀k,(nx+k=nx+4)=(k=4):=fun k=>by rw[eq_iff_iff];omega
 refine qS hit rfl (fun x hx=>?_) (by exact dmo hd) I E ?_ ?_ ?_ ?_ ?_ ?_ ?_ ?_ ?_
 ·rw[hV] at hx;rcases KY.1 hx with q|q
  ·obtain⟨_,_,rfl⟩:=Qi.1 q;rfl
  split at q
  ·cases q
  obtain rfl:x=_:=by simpa using q
  rfl
 ·exact fun i h nx1 hi=>bD h
 ·exact fun i h n1 n2 hi _=>(hI _ _ _).2 ((hI _ _ _).1 hi)
 ·intro i h n1 b hi;obtain⟨q0,q1,q2,q3,q4,o,q5,q6⟩:=(hI _ _ _).1 hi;refine(hI _ _ _).2 ⟨q0,iP q1 (aAo _ Zm) b,?_,?_,?_,o,?_,?_⟩
  all_goals first
   |exact Gl q6 Zm
   |(simp only[Kc];rw[if_neg or];assumption)
 ·exact fun e h n1 n2 hi _=>(hE _ _ _).2 ((hE _ _ _).1 hi)
 ·intro e h n1 b hi;obtain⟨q0,q1,a,q2,q3,q4,q5⟩:=(hE _ _ _).1 hi;refine(hE _ _ _).2 ⟨q0,iP q1 (aAo _ Zm) b,a,q2,?_,?_,?_⟩;all_goals (simp only[Kc];rw[if_neg or];assumption)
 ·refine(hI _ _ _).2 ⟨Kq _,leo hd,by simp only[go_sem,reduceIte,jA,jB,jC,jD,reduceCtorEq,jE,jF],by simp only[go_sem,reduceIte,jA,jB,jC,jD,reduceCtorEq,jE,jF],by simp only[go_sem,reduceIte,jA,jB,jC,jD,reduceCtorEq,jE,jF], .nil,by simp only[KO,KG,go_sem,reduceIte,jA,jB,jC,jD,reduceCtorEq,jE,jF], .inl ⟨Zm,rfl⟩⟩
 ·intro i hi h nx1 X hii hnx hX hdm;obtain⟨q0,q1,q2,q3,q4,o,q5,aAM⟩:=(hI _ _ _).1 hii;simp only at hnx hX;have aBO:nx+4<nx1:=hnx;by_cases hik:i<T.1.length
  ·have e:(bc s)[i]=[T.1[i].v, .nilIface]:=by
    simp only[hV];rw[KN (by simpa using hik)];simp
   rw[e];simp only[aAX,go_sem,reduceIte,jA,jB,jC,jD,reduceCtorEq,jE,jF];have hlen:((T.1.take i).map Tk.v).length=i:=by simp;omega
   have bCF:(i+1)*32≤140737488355328:=or;have hft:=Tk.aAA T.1[i];have l0:nx<nx1:=or;have l1:nx+1<nx1:=or;have l2:nx+2<nx1:=or;have l3:nx+3<nx1:=or;generalize hRR:Ff (nx+4) X _=RR;refine aue (e8 q2 q3 q4 q5 aBO hlen hX hft) ?_;rw[←hRR];refine nG ?_ fun X'=>?_
   ·simp only[hX,aBO,go_sem,reduceIte,jA,jB,jC,jD,reduceCtorEq,jE,jF]
   generalize hH:Kc (Kc _ nx1 _) (nx+4) X'=H;have hH0:H nx=some (.arr .leaf [.sl (.agg 3) .nil []]):=by rw[←hH];simp only[q2,l0,go_sem,reduceIte,jA,jB,jC,jD,reduceCtorEq,jE,jF]
   have hH1:H (nx+1)=some (.arr .leaf [.int .i64 0]):=by rw[←hH];simp only[q3,l1,go_sem,reduceIte,jA,jB,jC,jD,reduceCtorEq,jE,jF]
   have hH2:H (nx+2)=some (.arr .leaf [.nilIface]):=by rw[←hH];simp only[q4,l2,go_sem,reduceIte,jA,jB,jC,jD,reduceCtorEq,jE,jF]
   have hH3:H (nx+3)=some (.arr .leaf [.sl (.agg 3) o ((T.1.take i).map Tk.v)]):=by rw[←hH];simp only[q5,l3,go_sem,reduceIte,jA,jB,jC,jD,reduceCtorEq,jE,jF]
   have hH4:H (nx+4)=some X':=by rw[←hH];simp only[go_sem,reduceIte,jA,jB,jC,jD,reduceCtorEq,jE,jF]
   have hH5:H nx1=some (.arr (.agg 3) [T.1[i].v]):=by rw[←hH];simp only[aBO,go_sem,reduceIte,jA,jB,jC,jD,reduceCtorEq,jE,jF]
   have hdH:aS H (nx1+2):=by rw[←hH];exact dmo hdm
   have aRS:h'.le H:=by rw[←hH];exact lef hd q1
   have aAk:∀(H2:Hp) (id nx2:Nat) (sl:List V),H2 nx=some (.arr .leaf [.sl (.agg 3) .nil []])→H2 (nx+1)=some (.arr .leaf [.int .i64 0])→H2 (nx+2)=some (.arr .leaf [.nilIface])→H2 (nx+3)=some (.arr .leaf [.sl (.agg 3) (.tok id) ((T.1.take i).map Tk.v++[T.1[i].v])])→H2 (nx+4)=some X'→H2 id=some .tip→nx+5≤id→h'.le H2→mR (nx+4) X' (I (i+1)) E .normal ⟨sl,H2,nx2⟩:=by
    intro H2 id nx2 sl p0 p1 p2 p3 p4 p5 p6 p7;have htk:(T.1.take (i+1)).map Tk.v=(T.1.take i).map Tk.v++[T.1[i].v]:=by
     rw[Kg hik,KB];rfl
    exact nP p4 ((hI _ _ _).2 ⟨hik,p7,p0,p1,p2,_,by rw[htk];exact p3,by rw[htk];exact .inr ⟨Zm,id,p6,rfl,p5⟩⟩)
   generalize bA2:mR (nx+4) X' _ _=RR at aAk⊢;rcases aAM with⟨he,rfl⟩|⟨hne,id,hid,rfl,bAg⟩
   ·rw[he] at hH3 aAk;refine aue (e8 hH0 hH1 hH2 hH3 hH4 hH5 hft (e5 l0 l1 l2 l3 aBO)) ?_;refine aAk _ (nx1+3) _ _ ?_ ?_ ?_ ?_ ?_ ?_ or (lef hd aRS);all_goals simp only[hH0,hH1,hH2,hH3,hH4,l0,l1,l2,l3,aBO,jQ,go_sem,reduceIte,jA,jB,jC,jD,reduceCtorEq,jE,jF]
   have aHV:id<nx1:=hdm _ _ bAg;have hHt:H id=some .tip:=by rw[←hH];simp only[bAg,aHV,show(id=nx+4)=False from fls,go_sem,reduceIte,jA,jB,jC,jD,reduceCtorEq,jE,jF]
   have m3:nx+3<id:=or;have m4:nx+4<id:=or;have m0:nx<id:=or;have m1:nx+1<id:=or;have m2:nx+2<id:=or;refine aue (e8 hH0 hH1 hH2 hH3 hH4 hH5 hft (e13 l0 l1 l2 l3 aBO hHt aHV m3 m4 m0 m1 m2 (e2 hlen bCF))) ?_;refine aAk _ (nx1+3) _ _ ?_ ?_ ?_ ?_ ?_ ?_ or (lef hd aRS);all_goals simp only[hH0,hH1,hH2,hH3,hH4,l0,l1,l2,l3,aBO,m0,m1,m2,m3,m4,aHV,go_sem,reduceIte,jA,jB,jC,jD,reduceCtorEq,jE,jF]
  have bB3:i=T.1.length:=by rw[hV] at hi;simp at hi;cases hT2:T.2<;>simp[hT2] at hi<;>omega
  obtain⟨a,hT2⟩:∃a,T.2=some a:=by
   cases hT2:T.2 with
   |none=>rw[hV,hT2] at hi;simp at hi;omega
   |some a=>exact⟨a,rfl⟩
  have e:(bc s)[i]=[Tk.v ⟨0,⟨#[]⟩,a⟩, .iface 100 (.int .i64 2)]:=by
   simp only[hV,hT2];rw[KJ (by simp;omega)];simp[bB3]
  rw[e];simp only[aAX,Tk.v,go_sem,reduceIte,jA,jB,jC,jD,reduceCtorEq,jE,jF];have l0:nx<nx1:=or;have l1:nx+1<nx1:=or;have l2:nx+2<nx1:=or;have l3:nx+3<nx1:=or;generalize hRR:Ff (nx+4) X _=RR;refine aue (e7 q2 q3 q4 q5 aBO hX l0) ?_;rw[←hRR];refine nG ?_ fun X'=>?_
  ·simp only[hX,aBO,go_sem,reduceIte,jA,jB,jC,jD,reduceCtorEq,jE,jF]
  generalize hH:Kc (Kc _ nx1 _) (nx+4) X'=H;have hH0:H nx=some (.arr .leaf [.sl (.agg 3) .nil []]):=by rw[←hH];simp only[q2,l0,go_sem,reduceIte,jA,jB,jC,jD,reduceCtorEq,jE,jF]
  have hH1:H (nx+1)=some (.arr .leaf [.int .i64 0]):=by rw[←hH];simp only[q3,l1,go_sem,reduceIte,jA,jB,jC,jD,reduceCtorEq,jE,jF]
  have hH2:H (nx+2)=some (.arr .leaf [.nilIface]):=by rw[←hH];simp only[q4,l2,go_sem,reduceIte,jA,jB,jC,jD,reduceCtorEq,jE,jF]
  have hH4:H (nx+4)=some X':=by rw[←hH];simp only[go_sem,reduceIte,jA,jB,jC,jD,reduceCtorEq,jE,jF]
  have hH5:H nx1=some (.arr (.agg 3) [.agg [.int .i64 0, .str ⟨#[]⟩, .int .i64 a]]):=by rw[←hH];simp only[aBO,go_sem,reduceIte,jA,jB,jC,jD,reduceCtorEq,jE,jF]
  have aRS:h'.le H:=by rw[←hH];exact lef hd q1
  generalize bA2:mR (nx+4) X' _ _=RR;refine aue (e8 hH0 hH1 hH2 hH4 hH5 l0 l1 l2) ?_;refine oG ?_;refine⟨fun D s'=>RG (rgF nx1 a) (rgX nx nx1) 26 D s'.sl∧(∀n,n≠nx+1→n≠nx+2→s'.h n=H n)∧s'.h (nx+1)=some (.arr .leaf [if D 4=true then .int .i64 a else .int .i64 0])∧s'.h (nx+2)=some (.arr .leaf [if D 5=true then .iface 100 (.int .i64 2) else .nilIface]),⟨⟨rfl,?_,fun f _ e=>by cases e⟩,fun _ _ _=>rfl,hH1,hH2⟩,?_,?_⟩
  ·intro p hp;simp only[rgX,Qe,KU,or_false] at hp;rcases hp with rfl|rfl|rfl|rfl|rfl<;>rfl
  ·rintro D k oo aAF ⟨sl,hq,n2⟩ hk hDk aAZ hcl ⟨rs,r0,r1,r2⟩;dsimp only at rs r0 r1 r2;have x2:=rs.fx (2, .ptr nx .leaf 0 0) (by simp[rgX]);have x3:=rs.fx (3, .ptr (nx+1) .leaf 0 0) (by simp[rgX]);have x4:=rs.fx (4, .ptr (nx+2) .leaf 0 0) (by simp[rgX]);have x6:=rs.fx (6, .ptr nx1 (.agg 3) 0 0) (by simp[rgX]);have x7:=rs.fx (7, .iface 100 (.int .i64 2)) (by simp[rgX]);have y:∀f∈rgF nx1 a,f.1∈aAF→sl.getD f.2.1 V.undef=f.2.2:=fun f hf hd=>rs.dn f hf (aAZ _ hd);have g0:hq nx=some (.arr .leaf [.sl (.agg 3) .nil []]):=by rw[r0 nx or or];exact hH0
   have g5:hq nx1=some (.arr (.agg 3) [.agg [.int .i64 0, .str ⟨#[]⟩, .int .i64 a]]):=by rw[r0 nx1 or or];exact hH5
   dsimp only at x2 x3 x4 x6 x7;rcases k with _|_|_|_|_|_|k;all_goals first|(injection hk with hk;injection hk with p1 p2;subst p1;subst p2)|skip
   all_goals simp only[rgF,Qe,KU,or_false,forall_eq_or_imp,forall_eq,jE,reduceCtorEq,false_implies,implies_true,true_or,or_true,true_implies,and_true,true_and] at y
   all_goals simp only[bA,LOp.run,LOp.sem,bB.sem,aN.ev,bO,x2,x3,x4,x6,x7,y,g0,g5]
   ·exact⟨rs.slot 0 18 _ ZM (by simp[rgF]) (by simp[rgX]),r0,r1,r2⟩
   ·exact⟨trivial,Zm,by simp[cH],rs.slot 1 19 (.int .i64 a) ZM (by simp[rgF]) (by simp[rgX]),r0,r1,r2⟩
   ·exact⟨rs.slot 2 20 _ ZM (by simp[rgF]) (by simp[rgX]),r0,r1,r2⟩
   ·refine⟨trivial,Zm,rfl,rfl,rs.none 3 (by simp[rgF]),fun n q1 q2=>?_,?_,?_⟩
    ·simp only[Kc];split
     ·rename_i e;subst e;rw[hH0];rfl
     exact r0 n q1 q2
    ·simp only[Kc];rw[if_neg or];exact r1
    simp only[Kc];rw[if_neg or];exact r2
   ·rw[r1];refine⟨rfl,Zm,rfl,rfl,rs.none 4 (by simp[rgF]),fun n q1 q2=>?_,?_,?_⟩
    ·simp only[Kc];rw[if_neg q1];exact r0 n q1 q2
    ·rw[show D 4=false from hDk];simp only[Kc,if_true];rfl
    simp only[Kc];rw[if_neg or];exact r2
   ·rw[r2];refine⟨rfl,Zm,rfl,rfl,rs.none 5 (by simp[rgF]),fun n q1 q2=>?_,?_,?_⟩
    ·simp only[Kc];rw[if_neg q2];exact r0 n q1 q2
    ·simp only[Kc];rw[if_neg or];exact r1
    rw[show D 5=false from hDk];simp only[Kc,if_true];rfl
   simp[L.aCY] at hk
  rintro D ⟨sl,H9,n9⟩ hD ⟨rs,r0,r1,r2⟩;dsimp only at rs r0 r1 r2;rw[if_pos (hD 4 (by simp[L.aCY]))] at r1;rw[if_pos (hD 5 (by simp[L.aCY]))] at r2;unfold L.aDN;refine au ?_;rw[←bA2];refine zt (by dsimp only;rw[r0 _ or or];exact hH4) ((hE _ _ _).2 ⟨rfl,fun n b hb=>?_,a,hT2,?_,r1,r2⟩)
  ·have hn:n<nx:=hd n b hb;dsimp only;rw[r0 n or or];exact aRS n b hb
  dsimp only;rw[r0 _ or or];exact hH0
 ·intro h nx1 hii hnx hdm;obtain⟨q0,q1,q2,q3,q4,o,q5,aAM⟩:=(hI _ _ _).1 hii;simp only at hnx;have hT2:T.2=none:=by
   cases hT2:T.2 with
   |none=>rfl
   |some a=>exfalso;rw[hV,hT2] at q0;simp at q0;omega
  have hlx:(bc s).length=T.1.length:=by rw[hV,hT2];simp
  rw[hlx,Kt] at q5 aAM;refine aue (e4 q2 q3 q4 q5) ?_;refine xR (by simp only[q2,q3,q4,q5,go_sem,reduceIte,jA,jB,jC,jD,reduceCtorEq,jE,jF]) (by simp only[q2,q3,q4,q5,go_sem,reduceIte,jA,jB,jC,jD,reduceCtorEq,jE,jF]) (by simp only[q2,q3,q4,q5,go_sem,reduceIte,jA,jB,jC,jD,reduceCtorEq,jE,jF]) _ (Kb _) ⟨?_,?_⟩
  ·simp only[hT2,q2,q3,q4,q5,V.aAv,KQ,KG,aAM.loose,frO,List.isEmpty_map,go_sem,reduceIte,jA,jB,jC,jD,reduceCtorEq,jE,jF];cases T.1<;>rfl
  exact lef hd (pF q1 (aAo (nx+4) or))
 intro e h nx1 hee hnx hdm hc;obtain⟨rfl,q1,a,q2,q3,q4,q5⟩:=(hE _ _ _).1 hee;simp only at hnx;refine au ?_;refine xR (by simp only[q3,q4,q5,go_sem,reduceIte,jA,jB,jC,jD,reduceCtorEq,jE,jF]) (by simp only[q3,q4,q5,go_sem,reduceIte,jA,jB,jC,jD,reduceCtorEq,jE,jF]) (by simp only[q3,q4,q5,go_sem,reduceIte,jA,jB,jC,jD,reduceCtorEq,jE,jF]) _ (Kb _) ⟨?_,?_⟩
 ·simp only[q2,q3,q4,q5,V.aAv,V.loose,go_sem,reduceIte,jA,jB,jC,jD,reduceCtorEq,jE,jF]
 exact pF q1 (aAo _ Zm)
end Go.Proofs.YtgbiopfghdilnaaGreatDoor
namespace Go.Proofs.YtgbiopfghdilnaaGreatDoor
open Go.RowKit Go.Sort
attribute [local irreducible] Kz
instance:DecidableEq Tk:=fun a b=>decidable_of_iff (a.k=b.k∧a.t=b.t∧a.a=b.a) ⟨fun⟨h1,h2,h3⟩=>by cases a;cases b;simp only at h1 h2 h3;rw[h1,h2,h3],fun h=>by rw[h];exact⟨rfl,rfl,rfl⟩⟩
noncomputable def C7(k:Int)(s:ByteArray):Bool:=decide (s.size≤4000∧fI jT s (bW s 0)=([⟨k,s,0⟩],none))
theorem EI(s:ByteArray):C7 3 s=pl s:=by
 rw[KH];unfold C7;rw[decide_eq_true_eq,Bk Bn];exact⟨fun h=>h.2,fun h=>⟨by have:=(of_decide_eq_true h).2.1;omega,h⟩⟩
theorem EJ(s:ByteArray):C7 2 s=zq s:=by
 rw[KH];unfold C7;rw[decide_eq_true_eq,Bl Bn];exact⟨fun h=>h.2,fun h=>⟨by have:=(of_decide_eq_true (of_decide_eq_true h).1).2.1;omega,h⟩⟩
theorem Gq{k:Int}{s:ByteArray}{t:Tk}:veq (.plain (.agg 3) [.int, .str, .int]) t.v (.agg [.int .i64 k, .str s, .int .i64 0])=some (decide (t=⟨k,s,0⟩)):=by
 obtain⟨k',s',a⟩:=t;have e:veq (.plain (.agg 3) [.int, .str, .int]) (Tk.v ⟨k',s',a⟩) (.agg [.int .i64 k, .str s, .int .i64 0])=some ((k'==k)&&((s'.toList==s.toList)&&((a:Int)==0))):=rfl;rw[e,dN];congr 1;rw[KH];simp
theorem jw(s:ByteArray)(h:Hp):aK Tryz.prog 170 [.str s] h (.bool (pl s)):=by
 refine aH (fun L=>trivial) fun h' nx hh=>aB L.aOK fun hd=>?_;simp only[KV,KZ,Qr,Qt,Qf,Qg,KR,Qa,V.undef];rw[←EI];have C0:=fun h=>yE s h;unfold tF at C0;unfold C7;by_cases h1:4000<s.size
 ·rw[if_pos h1] at C0;have C1:=C0;refine au ?_;refine aC h' (leo hd) ⟨?_,rfl⟩;first|rfl|(rw[decide_eq_false or];rfl)
 rw[if_neg h1] at C0;obtain⟨T,hT⟩:∃T,fI jT s (bW s 0)=T:=⟨_,rfl⟩;rw[hT] at C0⊢;obtain⟨l,b⟩:=T;have h2:s.size≤4000:=or;cases b with
 |some a=>
  have C1:∀h,aK Tryz.prog 115 [.str s] h (.tup [.sl (.agg 3) .nil [], .int .i64 a, .iface 100 (.int .i64 2)]):=C0;refine au ?_;refine aC h' (leo hd) ⟨?_,rfl⟩;first|rfl|(rw[decide_eq_false Zm];rfl)
 |none=>
  match l with
  | []=>
   have C1:∀h,aK Tryz.prog 115 [.str s] h (.tup [.sl (.agg 3) .nil [], .int .i64 0, .nilIface]):=C0;have hk:(((0:Nat):Int)==1)=false:=rfl;refine aue hk ?_;refine aC h' (leo hd) ⟨?_,rfl⟩;first|rfl|(rw[decide_eq_false Zm];rfl)
  | [t]=>
   have C1:∀h,aK Tryz.prog 115 [.str s] h (.tup [.sl (.agg 3) .free [t.v], .int .i64 0, .nilIface]):=C0;have hv:=Gq (k:=3) (s:=s) (t:=t);have hk:(((1:Nat):Int)==1)=true:=rfl;have hk':(((0+1:Nat):Int)==1)=true:=rfl;refine aue (e4 hv (Tk.aAA t) hk hk') ?_;refine aC h' (leo hd) ⟨vb ?_,rfl⟩;simp[h2]
  |t::u::r=>
   have C1:∀h,aK Tryz.prog 115 [.str s] h (.tup [.sl (.agg 3) .free (t.v::u.v::r.map Tk.v), .int .i64 0, .nilIface]):=C0;obtain⟨q,hq⟩:∃q,r.map Tk.v=q:=⟨_,rfl⟩;rw[hq] at C1;have hk:(((q.length+1+1:Nat):Int)==1)=false:=bqf;have hk':((q.length:Int)+1+1==1)=false:=bqf;refine aue (e2 hk hk') ?_;refine aC h' (leo hd) ⟨?_,rfl⟩;first|rfl|(rw[decide_eq_false Zm];rfl)
theorem Ae(s:ByteArray)(h:Hp):aK Tryz.prog 122 [.str s] h (.bool (zq s)):=by
 refine aH (fun L=>trivial) fun h' nx hh=>aB L.bAV fun hd=>?_;simp only[KV,KZ,Qr,Qt,Qf,Qg,KR,Qa,V.undef];rw[←EJ];have C0:=fun h=>yE s h;unfold tF at C0;unfold C7;by_cases h1:4000<s.size
 ·rw[if_pos h1] at C0;have C1:=C0;refine au ?_;refine aC h' (leo hd) ⟨?_,rfl⟩;first|rfl|(rw[decide_eq_false or];rfl)
 rw[if_neg h1] at C0;obtain⟨T,hT⟩:∃T,fI jT s (bW s 0)=T:=⟨_,rfl⟩;rw[hT] at C0⊢;obtain⟨l,b⟩:=T;have h2:s.size≤4000:=or;cases b with
 |some a=>
  have C1:∀h,aK Tryz.prog 115 [.str s] h (.tup [.sl (.agg 3) .nil [], .int .i64 a, .iface 100 (.int .i64 2)]):=C0;refine au ?_;refine aC h' (leo hd) ⟨?_,rfl⟩;first|rfl|(rw[decide_eq_false Zm];rfl)
 |none=>
  match l with
  | []=>
   have C1:∀h,aK Tryz.prog 115 [.str s] h (.tup [.sl (.agg 3) .nil [], .int .i64 0, .nilIface]):=C0;have hk:(((0:Nat):Int)==1)=false:=rfl;refine aue hk ?_;refine aC h' (leo hd) ⟨?_,rfl⟩;first|rfl|(rw[decide_eq_false Zm];rfl)
  | [t]=>
   have C1:∀h,aK Tryz.prog 115 [.str s] h (.tup [.sl (.agg 3) .free [t.v], .int .i64 0, .nilIface]):=C0;have hv:=Gq (k:=2) (s:=s) (t:=t);have hk:(((1:Nat):Int)==1)=true:=rfl;have hk':(((0+1:Nat):Int)==1)=true:=rfl;refine aue (e4 hv (Tk.aAA t) hk hk') ?_;refine aC h' (leo hd) ⟨vb ?_,rfl⟩;simp[h2]
  |t::u::r=>
   have C1:∀h,aK Tryz.prog 115 [.str s] h (.tup [.sl (.agg 3) .free (t.v::u.v::r.map Tk.v), .int .i64 0, .nilIface]):=C0;obtain⟨q,hq⟩:∃q,r.map Tk.v=q:=⟨_,rfl⟩;rw[hq] at C1;have hk:(((q.length+1+1:Nat):Int)==1)=false:=bqf;have hk':((q.length:Int)+1+1==1)=false:=bqf;refine aue (e2 hk hk') ?_;refine aC h' (leo hd) ⟨?_,rfl⟩;first|rfl|(rw[decide_eq_false Zm];rfl)
end Go.Proofs.YtgbiopfghdilnaaGreatDoor
namespace Go.Proofs.YtgbiopfghdilnaaGreatDoor
open Go.RowKit Go.Sort
attribute [local irreducible] Kz
theorem vI(s:ByteArray):(s.toList==(⟨#[]⟩:ByteArray).toList)=decide (s.size=0):=by
 rw[dN];congr 1;rw[eq_iff_iff];exact⟨fun e=>by rw[e];rfl,fun e=>by cases hs:s with|mk d=>rw[hs] at e;simp only[ByteArray.size] at e;rw[Array.eq_empty_of_size_eq_zero e]⟩
theorem ku(w:Vl):veq (.plain (.agg 3) [.int, .int, .str]) (.agg [.int .i64 w.k, .int .i64 w.n, .str w.s]) (.agg [.int .i64 0, .int .i64 0, .str ⟨#[]⟩])=some (ye w):=by
 have e:veq (.plain (.agg 3) [.int, .int, .str]) (.agg [.int .i64 w.k, .int .i64 w.n, .str w.s]) (.agg [.int .i64 0, .int .i64 0, .str ⟨#[]⟩])=some ((w.k==0)&&((w.n==0)&&(w.s.toList==(⟨#[]⟩:ByteArray).toList))):=rfl;rw[e,vI];congr 1;rw[KH];unfold ye;simp
theorem mE(t:Tr):veq (.plain (.agg 4) [.str, .int, .int, .str]) (.agg [.str t.x, .int .i64 t.w.k, .int .i64 t.w.n, .str t.w.s]) (.agg [.str ⟨#[]⟩, .int .i64 0, .int .i64 0, .str ⟨#[]⟩])=some (nJ t):=by
 have e:veq (.plain (.agg 4) [.str, .int, .int, .str]) (.agg [.str t.x, .int .i64 t.w.k, .int .i64 t.w.n, .str t.w.s]) (.agg [.str ⟨#[]⟩, .int .i64 0, .int .i64 0, .str ⟨#[]⟩])=some ((t.x.toList==(⟨#[]⟩:ByteArray).toList)&&((t.w.k==0)&&((t.w.n==0)&&(t.w.s.toList==(⟨#[]⟩:ByteArray).toList)))):=rfl;rw[e,vI,vI];congr 1;rw[KH];unfold nJ;simp
theorem qB(t:Tr)(h:Hp):aK Tryz.prog 124 [t.v] h (.bool (dV t)):=by
 refine aH (fun L=>trivial) fun h' nx hh=>aB L.aQq fun hd=>?_;refine ZK ?_;have C1:∀h,aK Tryz.prog 54 [.agg [.int .i64 t.w.k, .int .i64 t.w.n, .str t.w.s]] h (.bool (dL t.w)):=fun h=>lD t.w h;have C2:=fun h=>jw t.x h;have hz:=ku t.w;have h0:=vI t.x;unfold dV;by_cases h1:t.x.size=0
 ·have g1:decide (t.x.size=0)=true:=dct;refine aue (e3 Tr.v.eq_1 h0 g1) ?_;refine aC h' (leo hd) ⟨?_,rfl⟩;rw[if_pos h1];rfl
 have g1:decide (t.x.size=0)=false:=dcf;rw[if_neg h1];cases h2:pl t.x with
 |true=>
  rw[h2] at C2;refine aue (e4 Tr.v.eq_1 h0 g1 hz) ?_;refine aC h' (leo hd) ⟨?_,rfl⟩;rfl
 |false=>
  rw[h2] at C2;refine aue (e4 Tr.v.eq_1 h0 g1 hz) ?_;refine aC h' (leo hd) ⟨?_,rfl⟩;rfl
theorem m6(e:Ex)(h:Hp):aK Tryz.prog 127 [e.v] h (.bool (kJ e)):=by
 refine aH (fun L=>trivial) fun h' nx hh=>aB L.bAS fun hd=>?_;obtain⟨op,t,o,ks⟩:=e;rw[Kd];refine ZK ?_;have hz:=mE t;unfold kJ;by_cases h1:op=0
 ·have g1:(op==0)=true:=bqt;cases h2:nJ t with
  |true=>
   rw[h2] at hz;cases ks with
   |nil=>
    have hk:(((0:Nat):Int)==0)=true:=rfl;refine aue (e8 Ex.cs.eq_1 Ex.op.eq_1 Ex.t.eq_1 Ex.o.eq_1 Ex.kids.eq_1 g1 hz hk) ?_;refine aC h' (leo hd) ⟨?_,rfl⟩;simp[h1,h2,Kp,Kj,Ex.t]
   |cons a r=>
    obtain⟨q,hq⟩:∃q,r.map Ex.v=q:=⟨_,rfl⟩;have hm:(a::r).map Ex.v=a.v::q:=by rw[←hq];rfl
    have hk:(((q.length+1:Nat):Int)==0)=false:=bqf;have hk':((q.length:Int)+1==0)=false:=bqf;refine aue (e10 Ex.cs.eq_1 Ex.op.eq_1 Ex.t.eq_1 Ex.o.eq_1 Ex.kids.eq_1 g1 hz hk hk' hm) ?_;refine aC h' (leo hd) ⟨?_,rfl⟩;simp[h1,h2,Kp,Kj,Ex.t]
  |false=>
   rw[h2] at hz;refine aue (e7 Ex.cs.eq_1 Ex.op.eq_1 Ex.t.eq_1 Ex.o.eq_1 Ex.kids.eq_1 g1 hz) ?_;refine aC h' (leo hd) ⟨?_,rfl⟩;simp[h1,h2,Kp,Kj,Ex.t]
 have g1:(op==0)=false:=bqf;refine aue (e6 Ex.cs.eq_1 Ex.op.eq_1 Ex.t.eq_1 Ex.o.eq_1 Ex.kids.eq_1 g1) ?_;refine aC h' (leo hd) ⟨?_,rfl⟩;simp[h1,Kp,Kj,Ex.t]
theorem kl0(l:List Ex):((l.length:Int)==0)=decide (l=[]):=by cases l<;>simp<;>omega
theorem kl2(l:List Ex):((l.length:Int) != 2)=decide (l.length≠2):=by
 rw[KH];simp;omega
theorem vi{a b:Int}(h:a=b):V.int .i64 a=V.int .i64 b:=by rw[h]
theorem AM(n:Nat)(op:Int)(t:Tr)(o:Own)(ks:List Ex)(h:ks.length≠2):fM (n+1) (.mk op t o ks)=if op=0∧ks=[]∧dV t=true then 0 else-1:=by
 unfold fM;match ks,h with
 | [],_=>rfl
 | [a],_=>rfl
 | [a,b],h=>exact absurd rfl h
 |a::b::c::r,_=>rfl
theorem Ga(n:Nat)(op:Int)(t:Tr)(o:Own)(a b:Ex):fM (n+1) (.mk op t o [a,b])=if 1≤op∧op≤3∧nJ t=true then (if fM n a<0∨fM n b<0 then-1 else 1+j1 true (fM n a) (fM n b)) else-1:=by
 conv=>lhs;unfold fM
 rw[if_neg Zm]
theorem Do:∀(n:Nat) (hn:n≤100) (e:Ex) (h:Hp),aK Tryz.prog 172 [e.v, .int .i64 n] h (.int .i64 (fM n e)):=by
 intro n;induction n with
 |zero=>
  intro hn e h;refine aH (fun L=>trivial) fun h' nx hh=>aB L.aGk fun hd=>?_;obtain⟨op,t,o,ks⟩:=e;rw[Kd];refine ZK ?_;have hz:=mE t;have k0:=kl0 ks;have k2:=kl2 ks;have hn0:(((0:Nat):Int)==0)=true:=rfl;have C1:∀h,aK Tryz.prog 124 [.agg [.str t.x, .int .i64 t.w.k, .int .i64 t.w.n, .str t.w.s]] h (.bool (dV t)):=fun h=>qB t h;unfold fM
  (repeat' (first|(with_reducible first|refine stp ?_|refine cG ZM ?_|refine pI (fun _=>?_) (fun _=>?_))|((first|(with_reducible refine lV ?_;first|refine jX rfl ?_ ?_|refine aI (C1 _) rfl (aL _) ?_|refine Zx ?_)|(with_reducible refine lZ ?_;first|refine kB rfl ?_ ?_|refine ZX ?_)|refine Zy ?_)<;>try simp only[Ex.cs.eq_1,Ex.op.eq_1,Ex.t.eq_1,Ex.o.eq_1,Ex.kids.eq_1,hz,k0,k2,hn0,jK,go_sem,reduceIte,jA,jB,jC,jD,reduceCtorEq,jE,jF])|refine ZY ?_|omega))
  all_goals refine aC h' (leo hd) ⟨vi ?_,rfl⟩
  all_goals simp_all
 |succ n ih=>
  intro hn e h;refine aH (fun L=>trivial) fun h' nx hh=>aB L.aGk fun hd=>?_;obtain⟨op,t,o,ks⟩:=e;rw[Kd];refine ZK ?_;have hz:=mE t;have k0:=kl0 ks;have k2:=kl2 ks;have hn0:(((n+1:Nat):Int)==0)=false:=bqf;have hn1:((n:Int)+1==0)=false:=bqf;have C1:∀h,aK Tryz.prog 124 [.agg [.str t.x, .int .i64 t.w.k, .int .i64 t.w.n, .str t.w.s]] h (.bool (dV t)):=fun h=>qB t h;have hw:IntKind.i64.wrap (((n+1:Nat):Int)-1)=(n:Int):=wrp;have hw':IntKind.i64.wrap ((n:Int)+1-1)=(n:Int):=wrp;by_cases hk:ks.length=2
  ·obtain⟨a,b,rfl⟩:∃a b,ks=[a,b]:=by
    match ks,hk with
    | [a,b],_=>exact⟨a,b,rfl⟩
   rw[Ga];have D1:=fun h=>ih or a h;have D2:=fun h=>ih or b h;have ha:=Ki a;have hb:=Ki b;have hm: [a,b].map Ex.v=[a.v,b.v]:=rfl;have hl:(((0+1+1:Nat):Int)==0)=false:=rfl;have hl2:(((0+1+1:Nat):Int) != 2)=false:=rfl;have hg1:=oQ n a;have hg2:=oQ n b;have hws:IntKind.i64.wrap (1+j1 true (fM n a) (fM n b))=1+j1 true (fM n a) (fM n b):=by
    unfold j1;rw[if_pos rfl];split<;>exact wrp
   (repeat' (first|(with_reducible first|refine stp ?_|refine cG ZM ?_|refine pI (fun _=>?_) (fun _=>?_))|((first|(with_reducible refine lV ?_;first|refine jX rfl ?_ ?_|refine aI (C1 _) rfl (aL _) ?_|refine Zx ?_)|(with_reducible refine lZ ?_;first|refine kB rfl ?_ ?_|refine bM (D1 _) rfl (bD _) ?_|refine bM (D2 _) rfl (bD _) ?_|refine ZX ?_)|refine Zy ?_)<;>try simp only[Ex.cs.eq_1,Ex.op.eq_1,Ex.t.eq_1,Ex.o.eq_1,Ex.kids.eq_1,hz,hm,ha,hb,hl,hl2,hn0,hn1,hw,hw',hws,go_sem,reduceIte,jA,jB,jC,jD,reduceCtorEq,jE,jF])|refine ZY ?_|omega))
   all_goals refine aC h' (leo hd) ⟨vi ?_,rfl⟩
   all_goals try simp_all
   all_goals try (intros;omega)
  rw[AM _ _ _ _ _ hk];have k2':((ks.length:Int) != 2)=true:=bnt
  (repeat' (first|(with_reducible first|refine stp ?_|refine cG ZM ?_|refine pI (fun _=>?_) (fun _=>?_))|((first|(with_reducible refine lV ?_;first|refine jX rfl ?_ ?_|refine aI (C1 _) rfl (aL _) ?_|refine Zx ?_)|(with_reducible refine lZ ?_;first|refine kB rfl ?_ ?_|refine ZX ?_)|refine Zy ?_)<;>try simp only[Ex.cs.eq_1,Ex.op.eq_1,Ex.t.eq_1,Ex.o.eq_1,Ex.kids.eq_1,hz,k0,k2',hn0,hn1,jK,go_sem,reduceIte,jA,jB,jC,jD,reduceCtorEq,jE,jF])|refine ZY ?_|omega))
  all_goals refine aC h' (leo hd) ⟨vi ?_,rfl⟩
  all_goals simp_all
theorem mn(e:Ex)(h:Hp):aK Tryz.prog 128 [e.v] h (.bool (jR e)):=by
 refine aH (fun L=>trivial) fun h' nx hh=>aB L.aQe fun hd=>?_;have he:=Kd e;have C1:∀h,aK Tryz.prog 172 [.agg e.cs, .int .i64 20] h (.int .i64 (fM 20 e)):=fun h=>he▸Do 20 or e h;rw[he];refine ZK ?_;refine aue Ex.cs.eq_1 ?_;refine aC h' (leo hd) ⟨vb ?_,rfl⟩;have:=yP 20 e;unfold jR;rw[←this];simp
theorem rq{α:Type}(p:α→Bool)(l:List α):(!l.any fun x=> !p x)=l.all p:=by
 induction l with
 |nil=>rfl
 |cons a r ih=>simp only[List.any_cons,Qu,Bool.not_or,ih,Bool.not_not]
theorem Ei:aE Tryz.prog 171=some (LB.aAi (.agg 17)):=Zz
theorem Ek:aE Tryz.prog 125=some (LB.ContainsFunc (.agg 17) 171):=Zz
theorem Eh:aE Tryz.prog 191=some (LB.aAi (.agg 4)):=Zz
theorem Ej:aE Tryz.prog 168=some (LB.ContainsFunc (.agg 4) 191):=Zz
theorem qv(g:Nat)(p:Tr→Bool)(t:Tr)(h:Hp)(n:Nat)(hn:h n=some (.arr .leaf [.fn (.func g) [] []]))(hp:∀h,aK Tryz.prog g [t.v] h (.bool (p t))):aK Tryz.prog 169 [t.v, .ptr n .leaf 0 0] h (.bool (!p t)):=by
 refine aH (fun L=>trivial) fun h' nx hh=>aB L.aZX fun hd=>?_;refine ZK ?_;have hn1:=hh _ _ hn rfl;have hn2:n<nx:=hd _ _ hn1;refine aue (e4 Tr.v.eq_1 hn1 hn2 Ko) ?_;refine iO rfl (hp _) rfl (aL _) ?_;refine Zn ?_;refine au ?_;exact aC h' (leo hd) ⟨rfl,rfl⟩
theorem wj(g:Nat)(p:Tr→Bool)(o:Own)(l:List Tr)(hl:l.length≤1000000)(h:Hp)(hp:∀(t:Tr) (h:Hp),aK Tryz.prog g [t.v] h (.bool (p t))):aK Tryz.prog 123 [trs o l, .fn (.func g) [] []] h (.bool (l.all p)):=by
 refine aH (fun L=>trivial) fun h' nx hh=>aB L.bAU fun hd=>?_;refine ZK ?_;have C1:∀h:Hp,h nx=some (.arr .leaf [.fn (.func g) [] []])→aK Tryz.prog 168 [.sl (.agg 4) o (l.map Ka), .fn (.func 169) [] [.ptr nx .leaf 0 0]] h (.bool (l.any fun x=> !p x)):=fun h hn=>
  kW Ka Ko Ej Eh (fun x=> !p x) o l _ _ h (fun t ht=>qv g p t h nx hn (hp t)) or
 refine au ?_;refine aI (C1 _ (by simp[Kc])) rfl (aL _) ?_;refine Zn ?_;refine au ?_;refine aC h' (leo hd) ⟨?_,rfl⟩;rw[←rq];rfl
theorem qw(g:Nat)(p:Li→Bool)(t:Li)(h:Hp)(n:Nat)(hn:h n=some (.arr .leaf [.fn (.func g) [] []]))(hp:∀h,aK Tryz.prog g [t.v] h (.bool (p t))):aK Tryz.prog 126 [t.v, .ptr n .leaf 0 0] h (.bool (!p t)):=by
 refine aH (fun L=>trivial) fun h' nx hh=>aB L.bAT fun hd=>?_;refine ZK ?_;have hn1:=hh _ _ hn rfl;have hn2:n<nx:=hd _ _ hn1;obtain⟨T,hT⟩:∃T:List V,T=([.int .i64 t.k, .str t.a.r,trs t.a.o t.a.l, .int .i64 t.op]++t.x.cs++t.y.cs++[.int .i64 t.at_]):=⟨_,rfl⟩;have hv:t.v= .agg T:=by rw[hT];rfl
 have hf:(V.agg T).fits (.agg 17)=true:=by rw[←hv];exact Li.aAA t
 rw[hv];rw[hv] at hp;refine aue (e3 hn1 hn2 hf) ?_;refine iO rfl (hp _) rfl (aL _) ?_;refine Zn ?_;refine au ?_;exact aC h' (leo hd) ⟨rfl,rfl⟩
theorem wm(g:Nat)(p:Li→Bool)(o:Own)(l:List Li)(hl:l.length≤1000000)(h:Hp)(hp:∀t∈l,∀h:Hp,aK Tryz.prog g [t.v] h (.bool (p t))):aK Tryz.prog 78 [.sl (.agg 17) o (l.map Li.v), .fn (.func g) [] []] h (.bool (l.all p)):=by
 refine aH (fun L=>trivial) fun h' nx hh=>aB L.bDK fun hd=>?_;refine ZK ?_;have C1:∀h:Hp,h nx=some (.arr .leaf [.fn (.func g) [] []])→aK Tryz.prog 125 [.sl (.agg 17) o (l.map Li.v), .fn (.func 126) [] [.ptr nx .leaf 0 0]] h (.bool (l.any fun x=> !p x)):=fun h hn=>
  kW Li.v Li.aAA Ek Ei (fun x=> !p x) o l _ _ h (fun t ht=>qw g p t h nx hn (hp t ht)) or
 refine au ?_;refine aI (C1 _ (by simp[Kc])) rfl (aL _) ?_;refine Zn ?_;refine au ?_;refine aC h' (leo hd) ⟨?_,rfl⟩;rw[←rq];rfl
theorem eu(a:Am)(h:Hp):aK Tryz.prog 76 [a.v] h (.bool (fO a)):=by
 refine aH (fun L=>trivial) fun h' nx hh=>aB L.bDM fun hd=>?_;refine ZK ?_;have C1:=fun h=>Ae a.r h;unfold fO;by_cases h1:a.l.length≤6
 ·have C2:∀h:Hp,aK Tryz.prog 123 [.sl (.agg 4) a.o (a.l.map Ka), .fn (.func 124) [] []] h (.bool (a.l.all dV)):=fun h=>wj _ dV a.o a.l or h qB;have g1:decide ((a.l.length:Int)≤6)=true:=dct
  (repeat' (first|(with_reducible first|refine stp ?_|refine cG ZM ?_|refine pI (fun _=>?_) (fun _=>?_))|((first|(with_reducible refine lV ?_;first|refine jX rfl ?_ ?_|refine aI (C1 _) rfl (aL _) ?_|refine aI (C2 _) rfl (aL _) ?_|refine Zx ?_)|(with_reducible refine lZ ?_;first|refine kB rfl ?_ ?_|refine ZX ?_)|refine Zy ?_)<;>try simp only[Am.v.eq_1,g1,jK,go_sem,reduceIte,jA,jB,jC,jD,reduceCtorEq,jE,jF])|refine ZY ?_|omega))
  all_goals refine aC h' (leo hd) ⟨vb ?_,rfl⟩
  all_goals simp_all
 have g1:decide ((a.l.length:Int)≤6)=false:=dcf
 (repeat' (first|(with_reducible first|refine stp ?_|refine cG ZM ?_|refine pI (fun _=>?_) (fun _=>?_))|((first|(with_reducible refine lV ?_;first|refine jX rfl ?_ ?_|refine aI (C1 _) rfl (aL _) ?_|refine Zx ?_)|(with_reducible refine lZ ?_;first|refine kB rfl ?_ ?_|refine ZX ?_)|refine Zy ?_)<;>try simp only[Am.v.eq_1,g1,jK,go_sem,reduceIte,jA,jB,jC,jD,reduceCtorEq,jE,jF])|refine ZY ?_|omega))
 all_goals refine aC h' (leo hd) ⟨vb ?_,rfl⟩
 all_goals simp_all
 all_goals try omega
theorem kn0{α:Type}(l:List α):((l.length:Int)==0)=decide (l=[]):=by cases l<;>simp<;>omega
theorem Li.aAV(l:Li):l.v= .agg [.int .i64 l.k, .str l.a.r,trs l.a.o l.a.l, .int .i64 l.op, .int .i64 l.x.op, .str l.x.t.x, .int .i64 l.x.t.w.k, .int .i64 l.x.t.w.n, .str l.x.t.w.s, .sl (.agg 6) l.x.o (l.x.kids.map Ex.v), .int .i64 l.y.op, .str l.y.t.x, .int .i64 l.y.t.w.k, .int .i64 l.y.t.w.n, .str l.y.t.w.s, .sl (.agg 6) l.y.o (l.y.kids.map Ex.v), .int .i64 l.at_]:=rfl
theorem mj(l:Li)(h:Hp):aK Tryz.prog 79 [l.v] h (.bool (bG l)):=by
 refine aH (fun L=>trivial) fun h' nx hh=>aB L.bDJ fun hd=>?_;rw[Li.aAV];refine ZK ?_;have C1:∀h:Hp,aK Tryz.prog 76 [.agg [.str l.a.r, .sl (.agg 4) l.a.o (l.a.l.map Ka)]] h (.bool (fO l.a)):=fun h=>eu l.a h;have N1:∀h:Hp,aK Tryz.prog 127 [.agg [.int .i64 l.x.op, .str l.x.t.x, .int .i64 l.x.t.w.k, .int .i64 l.x.t.w.n, .str l.x.t.w.s, .sl (.agg 6) l.x.o (l.x.kids.map Ex.v)]] h (.bool (kJ l.x)):=fun h=>Kd l.x▸m6 l.x h;have N2:∀h:Hp,aK Tryz.prog 127 [.agg [.int .i64 l.y.op, .str l.y.t.x, .int .i64 l.y.t.w.k, .int .i64 l.y.t.w.n, .str l.y.t.w.s, .sl (.agg 6) l.y.o (l.y.kids.map Ex.v)]] h (.bool (kJ l.y)):=fun h=>Kd l.y▸m6 l.y h;have X1:∀h:Hp,aK Tryz.prog 128 [.agg [.int .i64 l.x.op, .str l.x.t.x, .int .i64 l.x.t.w.k, .int .i64 l.x.t.w.n, .str l.x.t.w.s, .sl (.agg 6) l.x.o (l.x.kids.map Ex.v)]] h (.bool (jR l.x)):=fun h=>Kd l.x▸mn l.x h;have X2:∀h:Hp,aK Tryz.prog 128 [.agg [.int .i64 l.y.op, .str l.y.t.x, .int .i64 l.y.t.w.k, .int .i64 l.y.t.w.n, .str l.y.t.w.s, .sl (.agg 6) l.y.o (l.y.kids.map Ex.v)]] h (.bool (jR l.y)):=fun h=>Kd l.y▸mn l.y h;have s0:=vI l.a.r;have k0:=kn0 l.a.l;unfold bG
 (repeat' (first|(with_reducible first|refine stp ?_|refine cG ZM ?_|refine pI (fun _=>?_) (fun _=>?_))|((first|(with_reducible refine lV ?_;first|refine jX rfl ?_ ?_|refine aI (C1 _) rfl (aL _) ?_|refine aI (N1 _) rfl (aL _) ?_|refine aI (N2 _) rfl (aL _) ?_|refine aI (X1 _) rfl (aL _) ?_|refine aI (X2 _) rfl (aL _) ?_|refine Zx ?_)|(with_reducible refine lZ ?_;first|refine kB rfl ?_ ?_|refine ZX ?_)|refine Zy ?_)<;>try simp only[s0,k0,jK,go_sem,reduceIte,jA,jB,jC,jD,reduceCtorEq,jE,jF])|refine ZY ?_|omega))
 all_goals refine aC h' (leo hd) ⟨vb ?_,rfl⟩
 all_goals simp_all
 all_goals try omega
theorem bg(r:Ru)(h:Hp):aK Tryz.prog 77 [r.v] h (.bool (jp r)):=by
 refine aH (fun L=>trivial) fun h' nx hh=>aB L.bDL fun hd=>?_;obtain⟨⟨hr,ho,hl⟩,g,c,o,b,at_⟩:=r;refine ZK ?_;unfold jp;by_cases hc:0≤c∧c<hl.length
 ·obtain⟨n,rfl⟩:∃n:Nat,c=n:=⟨c.toNat,or⟩;have hn:n<hl.length:=or;have g1:decide ((n:Int)<0)=false:=dcf;have g2:decide ((hl.length:Int)≤(n:Int))=false:=dcf;have g3:decide ((n:Int)≥(hl.length:Int))=false:=dcf;have hg:=aJ Ka hl n hn;have hD:hl.getD n ry=hl[n]:=by rw[Kw,KF hn];rfl
  have s0:=vI hl[n].x
  (repeat' (first|(with_reducible first|refine stp ?_|refine cG ZM ?_|refine pI (fun _=>?_) (fun _=>?_))|((first|(with_reducible refine lV ?_;first|refine jX rfl ?_ ?_|refine Zx ?_)|(with_reducible refine lZ ?_;first|refine kB rfl ?_ ?_|refine ZX ?_)|refine Zy ?_)<;>try simp only[Ru.v.eq_1,g1,g2,g3,hg,hn,s0,Tr.v.eq_1,jK,jG,go_sem,reduceIte,jA,jB,jC,jD,reduceCtorEq,jE,jF])|refine ZY ?_|omega))
  all_goals refine aC h' (leo hd) ⟨vb ?_,rfl⟩
  all_goals simp_all
  all_goals try omega
 rcases(by omega:c<0∨(hl.length:Int)≤c) with hc|hc
 ·have g1:decide (c<0)=true:=dct
  (repeat' (first|(with_reducible first|refine stp ?_|refine cG ZM ?_|refine pI (fun _=>?_) (fun _=>?_))|((first|(with_reducible refine lV ?_;first|refine jX rfl ?_ ?_|refine Zx ?_)|(with_reducible refine lZ ?_;first|refine kB rfl ?_ ?_|refine ZX ?_)|refine Zy ?_)<;>try simp only[Ru.v.eq_1,g1,jK,go_sem,reduceIte,jA,jB,jC,jD,reduceCtorEq,jE,jF])|refine ZY ?_|omega))
  all_goals refine aC h' (leo hd) ⟨vb ?_,rfl⟩
  all_goals simp_all
  all_goals try omega
 have g1:decide (c<0)=false:=dcf;have g2:decide ((hl.length:Int)≤c)=true:=dct;have g3:decide (c≥(hl.length:Int))=true:=dct
 (repeat' (first|(with_reducible first|refine stp ?_|refine cG ZM ?_|refine pI (fun _=>?_) (fun _=>?_))|((first|(with_reducible refine lV ?_;first|refine jX rfl ?_ ?_|refine Zx ?_)|(with_reducible refine lZ ?_;first|refine kB rfl ?_ ?_|refine ZX ?_)|refine Zy ?_)<;>try simp only[Ru.v.eq_1,g1,g2,g3,jK,go_sem,reduceIte,jA,jB,jC,jD,reduceCtorEq,jE,jF])|refine ZY ?_|omega))
 all_goals refine aC h' (leo hd) ⟨vb ?_,rfl⟩
 all_goals simp_all
 all_goals try omega
theorem zh(r:Ru)(h:Hp):aK Tryz.prog 36 [r.v] h (.bool (bT r)):=by
 refine aH (fun L=>trivial) fun h' nx hh=>aB L.bEG fun hd=>?_;refine ZK ?_;have C1:∀h:Hp,aK Tryz.prog 76 [.agg [.str r.h.r, .sl (.agg 4) r.h.o (r.h.l.map Ka)]] h (.bool (fO r.h)):=fun h=>eu r.h h;have C2:∀h:Hp,aK Tryz.prog 77 [.agg [.str r.h.r, .sl (.agg 4) r.h.o (r.h.l.map Ka), .int .i64 r.g, .int .i64 r.c, .sl (.agg 17) r.o (r.b.map Li.v), .int .i64 r.at_]] h (.bool (jp r)):=fun h=>bg r h;unfold bT;by_cases h1:r.b.length≤8
 ·have C3:∀h:Hp,aK Tryz.prog 78 [.sl (.agg 17) r.o (r.b.map Li.v), .fn (.func 79) [] []] h (.bool (r.b.all bG)):=fun h=>wm _ bG r.o r.b or h (fun t _=>mj t);have g1:decide ((r.b.length:Int)≤8)=true:=dct
  (repeat' (first|(with_reducible first|refine stp ?_|refine cG ZM ?_|refine pI (fun _=>?_) (fun _=>?_))|((first|(with_reducible refine lV ?_;first|refine jX rfl ?_ ?_|refine aI (C1 _) rfl (aL _) ?_|refine aI (C2 _) rfl (aL _) ?_|refine aI (C3 _) rfl (aL _) ?_|refine Zx ?_)|(with_reducible refine lZ ?_;first|refine kB rfl ?_ ?_|refine ZX ?_)|refine Zy ?_)<;>try simp only[Ru.v.eq_1,g1,jK,go_sem,reduceIte,jA,jB,jC,jD,reduceCtorEq,jE,jF])|refine ZY ?_|omega))
  all_goals refine aC h' (leo hd) ⟨vb ?_,rfl⟩
  all_goals simp_all
  all_goals try omega
 have g1:decide ((r.b.length:Int)≤8)=false:=dcf
 (repeat' (first|(with_reducible first|refine stp ?_|refine cG ZM ?_|refine pI (fun _=>?_) (fun _=>?_))|((first|(with_reducible refine lV ?_;first|refine jX rfl ?_ ?_|refine aI (C1 _) rfl (aL _) ?_|refine aI (C2 _) rfl (aL _) ?_|refine Zx ?_)|(with_reducible refine lZ ?_;first|refine kB rfl ?_ ?_|refine ZX ?_)|refine Zy ?_)<;>try simp only[Ru.v.eq_1,g1,jK,go_sem,reduceIte,jA,jB,jC,jD,reduceCtorEq,jE,jF])|refine ZY ?_|omega))
 all_goals refine aC h' (leo hd) ⟨vb ?_,rfl⟩
 all_goals simp_all
 all_goals try omega
end Go.Proofs.YtgbiopfghdilnaaGreatDoor
namespace Go.Proofs.YtgbiopfghdilnaaGreatDoor
open Go.RowKit
attribute [local go_sem] Option.some.injEq Prod.mk.injEq false_and and_false Bool.true_eq_false GX Fb Gu AO D0 if_true Qv E8 rM iq qP jV aA.ok aA.next LOp.ok LOp.next bB.ok bB.out aN.ev bO xu oE mS xW V.undef Sh.size pV yO iH aA.dok aA.aC0 LOp.dok LOp.aER ww w8 gY hZ List.take_succ_cons KO List.take_nil List.drop_succ_cons Qo List.drop_nil List.set_cons_succ List.set_cons_zero List.getD_cons_succ List.getD_cons_zero jL jM KQ KG Qu List.all_nil Qe KU jN jO jP jQ Qb List.isEmpty_cons List.isEmpty_nil fH gG rO Option.getD_some Option.isSome_some Option.isSome_none Nat.add_eq Qj Qk true_and and_true and_self true_implies implies_true false_implies forall_const forall_eq forall_eq_or_imp ne_eq not_false_eq_true not_true_eq_false Bool.not_true Bool.not_false decide_true decide_false Bool.and_true Qv Bool.and_false Bool.false_and true_or or_true false_or or_false eq_self Bool.false_eq_true GJ DZ iZ aD dB eG iA wW sM wV lC nA dS jG Qd Kt Hp.aAQ Hp.aA6 wP uV aA.plain LOp.aAa aA.aB0 LOp.aBu u6 GU EU Hm Ax V.aDM V.aCX Bi uj uk Bh fL bC gH nT pH beq_true beq_false mt mv mw gm gn vJ vK oM wg gu nw nr wG ns ny vj vm wH nu tG gr vn zR nq zS rA yh DF DG DE o8 jc xf mH se sd sc r9 r8 cr cq kz kw kv da cw ct sj sh sf k9 k8 k7 sN i6 dD cm Hp.aBY lP Option.isNone_some Option.isNone_none
namespace LB
abbrev aHI(k:Sh):List aA:=[
 ⟨some 4,none, .val (.move (.const (.sl k .nil [])))⟩]
abbrev aHH:List aA:=[
 ⟨some 5,none, .val (.move (.slot 1))⟩,
 ⟨some 6,none, .val (.bin .lss (.slot 5) (.const (.int .i64 0)))⟩]
abbrev aHG(ts:Nat):List aA:=[
 ⟨some 7,none, .val (.mkif ts (.const (.str ⟨#[99,97,110,110,111,116,32,98,101,32,110,101,103,97,116,105,118,101]⟩)))⟩,
 ⟨none,none, .val (.never)⟩]
abbrev aHF:List aA:=[
 ⟨some 8,none, .val (.move (.slot 1))⟩,
 ⟨some 9,none, .val (.move (.slot 0))⟩,
 ⟨some 10,none, .val (.capv (.slot 9))⟩,
 ⟨some 11,none, .val (.move (.slot 0))⟩,
 ⟨some 12,none, .val (.len (.slot 11))⟩,
 ⟨some 13,none, .val (.bin .sub (.slot 10) (.slot 12))⟩,
 ⟨some 14,none, .val (.bin .sub (.slot 8) (.slot 13))⟩,
 ⟨some 1,none, .val (.move (.slot 14))⟩]
abbrev aHE:List aA:=[
 ⟨some 15,none, .val (.move (.slot 1))⟩,
 ⟨some 16,none, .val (.bin .gtr (.slot 15) (.const (.int .i64 0)))⟩]
abbrev aHD(k:Sh)(z:V)(bs:Nat):List aA:=[
 ⟨some 17,none, .val (.move (.slot 0))⟩,
 ⟨some 18,none, .val (.move (.slot 0))⟩,
 ⟨some 19,none, .val (.capv (.slot 18))⟩,
 ⟨some 20,none, .val (.slc k (.slot 17) .none (.some (.slot 19)) .none)⟩,
 ⟨some 21,none, .val (.move (.slot 1))⟩,
 ⟨some 22,none, .appz k bs (.slot 20) (.slot 21) z⟩,
 ⟨some 23,none, .val (.move (.slot 0))⟩,
 ⟨some 24,none, .val (.len (.slot 23))⟩,
 ⟨some 25,none, .val (.slc k (.slot 22) .none (.some (.slot 24)) .none)⟩,
 ⟨some 0,none, .val (.move (.slot 25))⟩]
abbrev aHC:List aA:=[
 ⟨some 26,none, .val (.move (.slot 0))⟩,
 ⟨some 4,none, .val (.move (.slot 26))⟩]
def Grow(k:Sh)(z:V)(bs:Nat)(ts:Nat):LFn:=⟨(.seq (.ops (aHI k)) (.seq (.seq (.ops aHH) (.cond (.slot 6) (.ops (aHG ts)) .skip)) (.seq (.seq (.ops aHF) (.seq (.ops aHE) (.cond (.slot 16) (.ops (aHD k z bs)) .skip))) (.seq (.ops aHC) .ret)))),27,[.slot 4]⟩
abbrev aDn(k:Sh):List aA:=[
 ⟨some 2,none, .val (.move (.const (.sl k .nil [])))⟩]
abbrev aDm:List aA:=[
 ⟨some 3,none, .val (.move (.const (.int .i64 0)))⟩]
abbrev aDl:List aA:=[
 ⟨some 9,none, .val (.move (.slot 0))⟩,
 ⟨some 10,none, .val (.len (.slot 9))⟩,
 ⟨some 11,none, .val (.move (.const (.int .i64 0)))⟩]
abbrev aDk:List aA:=[
 ⟨some 12,none, .val (.bin .lss (.slot 11) (.slot 10))⟩]
abbrev aDj:List aA:=[
 ⟨some 13,none, .val (.idxA .leaf (.slot 9) (.slot 11))⟩,
 ⟨some 14,none, .val (.load .leaf (.slot 13))⟩,
 ⟨some 5,none, .val (.move (.slot 14))⟩]
abbrev aDi:List aA:=[
 ⟨some 15,none, .val (.move (.slot 3))⟩,
 ⟨some 16,none, .val (.move (.slot 5))⟩,
 ⟨some 17,none, .val (.len (.slot 16))⟩,
 ⟨some 18,none, .val (.bin .add (.slot 15) (.slot 17))⟩,
 ⟨some 3,none, .val (.move (.slot 18))⟩]
abbrev aDh:List aA:=[
 ⟨some 19,none, .val (.move (.slot 3))⟩,
 ⟨some 20,none, .val (.bin .lss (.slot 19) (.const (.int .i64 0)))⟩]
abbrev aDg(ts:Nat):List aA:=[
 ⟨some 21,none, .val (.mkif ts (.const (.str ⟨#[108,101,110,32,111,117,116,32,111,102,32,114,97,110,103,101]⟩)))⟩,
 ⟨none,none, .val (.never)⟩]
abbrev aDf:List aA:=[
 ⟨some 22,none, .val (.bin .add (.slot 11) (.const (.int .i64 1)))⟩,
 ⟨some 11,none, .val (.move (.slot 22))⟩]
abbrev aDp(ts:Nat):aR:=(.seq (.ops aDk) (.seq (.cond (.slot 12) .skip (.exit 0)) (.seq (.block 1 (.seq (.ops aDj) (.seq (.ops aDi) (.seq (.ops aDh) (.cond (.slot 20) (.ops (aDg ts)) .skip))))) (.ops aDf))))
abbrev aDe(k:Sh)(f0:Nat):List aA:=[
 ⟨some 23,none, .val (.move (.slot 3))⟩,
 ⟨some 24,none, .call f0 [(.const (.sl k .nil [])),(.slot 23)]⟩,
 ⟨some 6,none, .val (.move (.slot 24))⟩]
abbrev aCs:List aA:=[
 ⟨some 25,none, .val (.move (.slot 0))⟩,
 ⟨some 26,none, .val (.len (.slot 25))⟩,
 ⟨some 27,none, .val (.move (.const (.int .i64 0)))⟩]
abbrev aCr:List aA:=[
 ⟨some 28,none, .val (.bin .lss (.slot 27) (.slot 26))⟩]
abbrev aCq:List aA:=[
 ⟨some 29,none, .val (.idxA .leaf (.slot 25) (.slot 27))⟩,
 ⟨some 30,none, .val (.load .leaf (.slot 29))⟩,
 ⟨some 8,none, .val (.move (.slot 30))⟩]
abbrev aCp(k:Sh)(bs:Nat):List aA:=[
 ⟨some 31,none, .val (.move (.slot 6))⟩,
 ⟨some 32,none, .val (.move (.slot 8))⟩,
 ⟨some 33,none, .append k bs (.slot 31) (.slot 32)⟩,
 ⟨some 6,none, .val (.move (.slot 33))⟩]
abbrev aCo:List aA:=[
 ⟨some 34,none, .val (.bin .add (.slot 27) (.const (.int .i64 1)))⟩,
 ⟨some 27,none, .val (.move (.slot 34))⟩]
abbrev aDo(k:Sh)(bs:Nat):aR:=(.seq (.ops aCr) (.seq (.cond (.slot 28) .skip (.exit 2)) (.seq (.block 3 (.seq (.ops aCq) (.ops (aCp k bs)))) (.ops aCo))))
abbrev aCn:List aA:=[
 ⟨some 35,none, .val (.move (.slot 6))⟩,
 ⟨some 2,none, .val (.move (.slot 35))⟩]
def Concat(k:Sh)(bs:Nat)(ts:Nat)(f0:Nat):LFn:=⟨(.seq (.ops (aDn k)) (.seq (.ops aDm) (.seq (.seq (.ops aDl) (.block 0 (.loop (aDp ts)))) (.seq (.ops (aDe k f0)) (.seq (.seq (.ops aCs) (.block 2 (.loop (aDo k bs)))) (.seq (.ops aCn) .ret)))))),36,[.slot 2]⟩
end LB
section
variable{P:Program}{k:Sh}{bs ts:Nat}
theorem EQ{f:Nat}{z:V}(hL:aE P f=some (LB.Grow k z bs ts))(m:Nat)(hm:m≤1000000000)(hbs:bs≤140737)(h':Hp)(nx:Nat):
 aY P f [.sl k .nil [], .int .i64 m] h' nx fun v h'' _=>(m=0∧v= .sl k .nil []∧h''=h')∨(0<m∧∃id es,nx≤id∧v= .rs id k 0 0∧h''=h'.set id (.arr k es)):=by
 have hb:=sP hm hbs;refine aB hL fun hd=>?_;refine ZK ?_;have w1:IntKind.i64.wrap ((m:Int)-0)=m:=by rw[gA]<;>omega
 have w2:IntKind.i64.wrap ((0:Int)-0)=0:=by rw[gA]<;>omega
 repeat (first|with_reducible refine bZ ?_|with_reducible refine bL ?_|with_reducible refine cE ?_|with_reducible refine aZ ?_|with_reducible refine aW ?_|with_reducible refine cP ?_|(refine cF rfl (by simp only[ go_sem,reduceIte,jA,jB,jC,jD,reduceCtorEq,jE,jF];try omega) ?_;simp only[ go_sem,reduceIte,jA,jB,jC,jD,reduceCtorEq,jE,jF])|(with_reducible refine bS ?_))
 refine dM _ rfl (fun hc=>?_) (fun hc=>?_)
 ·have:=of_decide_eq_true hc;omega
 repeat (first|with_reducible refine bZ ?_|with_reducible refine bL ?_|with_reducible refine cE ?_|with_reducible refine aZ ?_|with_reducible refine aW ?_|with_reducible refine cP ?_|(refine cF rfl (by simp only[w1,w2,jJ,go_sem,reduceIte,jA,jB,jC,jD,reduceCtorEq,jE,jF];try omega) ?_;simp only[w1,w2,jJ,go_sem,reduceIte,jA,jB,jC,jD,reduceCtorEq,jE,jF])|(with_reducible refine bS ?_))
 refine dM _ rfl (fun hc=>?_) (fun hc=>?_)
 ·have aAu:0<m:=by have:=of_decide_eq_true hc;omega
  have aHo:(0<(m:Int)):=or;repeat (first|with_reducible refine bZ ?_|with_reducible refine bL ?_|with_reducible refine cE ?_|with_reducible refine aZ ?_|with_reducible refine aW ?_|with_reducible refine cP ?_|(refine cF rfl (by simp only[w1,w2,jJ,hb,aHo,aAu,Qd,Ql,Qy,go_sem,reduceIte,jA,jB,jC,jD,reduceCtorEq,jE,jF];try omega) ?_;simp only[w1,w2,jJ,hb,aHo,aAu,Qd,Ql,Qy,go_sem,reduceIte,jA,jB,jC,jD,reduceCtorEq,jE,jF])|(with_reducible refine bS ?_))
  refine dP (aC _ (Kb _) ⟨nx,Qp m z,Kk _,?_,?_⟩)
  ·simp only[go_sem,reduceIte,jA,jB,jC,jD,reduceCtorEq,jE,jF]
  rfl
 have hz:m=0:=by have:=of_decide_eq_false hc;omega
 repeat (first|with_reducible refine bZ ?_|with_reducible refine bL ?_|with_reducible refine cE ?_|with_reducible refine aZ ?_|with_reducible refine aW ?_|with_reducible refine cP ?_|(refine cF rfl (by simp only[ go_sem,reduceIte,jA,jB,jC,jD,reduceCtorEq,jE,jF];try omega) ?_;simp only[ go_sem,reduceIte,jA,jB,jC,jD,reduceCtorEq,jE,jF])|(with_reducible refine bS ?_))
 refine dP (aC h' (Kb _) (.inl ⟨hz,?_,rfl⟩));simp only[go_sem,reduceIte,jA,jB,jC,jD,reduceCtorEq,jE,jF]
def cT(L:List (Own×List V)):List V:=L.flatMap (·.2)
theorem dg(L:List (Own×List V))(i:Nat)(h:i<L.length):cT (L.take (i+1))=cT (L.take i)++L[i].2:=by
 unfold cT;rw[Kg h,KK];simp
theorem l5(L:List (Own×List V))(i:Nat):(cT (L.take i)).length≤(cT L).length:=by
 have:cT L=cT (L.take i)++cT (L.drop i):=by
  unfold cT;rw[←KK,Qc]
 rw[this];simp
theorem rg{f f0:Nat}{z:V}(hL:aE P f=some (LB.Concat k bs ts f0))(hL0:aE P f0=some (LB.Grow k z bs ts))(hbs:bs≤140737)(own:Own)(L:List (Own×List V))(hl:L.length≤1000000)(ht:(cT L).length≤100000000)(h':Hp)(nx:Nat):
 aY P f [.sl .leaf own (L.map fun p=> .sl k p.1 p.2)] h' nx fun v h'' _=>rt nx h' k (cT L) v h'':=by
 refine aB hL fun hd=>?_;refine ZK ?_;repeat (first|with_reducible refine bZ ?_|with_reducible refine bL ?_|with_reducible refine cE ?_|with_reducible refine aZ ?_|with_reducible refine aW ?_|with_reducible refine cP ?_|(refine cF rfl (by simp only[ go_sem,reduceIte,jA,jB,jC,jD,reduceCtorEq,jE,jF];try omega) ?_;simp only[ go_sem,reduceIte,jA,jB,jC,jD,reduceCtorEq,jE,jF])|(with_reducible refine bS ?_))
 refine aO (fun i:Nat=>aD 36 0 [(0, .sl .leaf own (L.map fun p=> .sl k p.1 p.2)),(3, .int .i64 (cT (L.take i)).length),(9, .sl .leaf own (L.map fun p=> .sl k p.1 p.2)),(10, .int .i64 L.length),(11, .int .i64 i)]) (fun i h2 nx2=>i≤L.length∧h2=h'∧nx≤nx2) (fun i=>L.length-i) 0 ⟨Kq _,rfl,Kk _⟩ ?_ ?_
 ·have e0:cT ([]:List (Own×List V))=[]:=rfl;simp only[WkL,aD,jH,jI,jJ,e0,jK,go_sem,reduceIte,jA,jB,jC,jD,reduceCtorEq,jE,jF]
 rintro i h2 nx2 ⟨hi,rfl,hnx⟩;generalize hQ:aV _ _ _ _ _=Q0;refine Zk ?_;repeat (first|with_reducible refine bZ ?_|with_reducible refine bL ?_|with_reducible refine cE ?_|with_reducible refine aZ ?_|with_reducible refine aW ?_|with_reducible refine cP ?_|(refine cF rfl (by simp only[ go_sem,reduceIte,jA,jB,jC,jD,reduceCtorEq,jE,jF];try omega) ?_;simp only[ go_sem,reduceIte,jA,jB,jC,jD,reduceCtorEq,jE,jF])|(with_reducible refine bS ?_))
 refine dM _ rfl (fun hc=>?_) (fun hc=>?_)
 ·have hlt:i<L.length:=by have:=of_decide_eq_true hc;omega
  have hg:=aJ (fun p:Own×List V=>V.sl k p.1 p.2) L i hlt;have hlen:(i:Int)<((L.map fun p=>V.sl k p.1 p.2).length:Int):=by simp;omega
  have h0:=l5 L (i+1);have h1:=congrArg Qz (dg L i hlt);rw[KC] at h1;have hw:IntKind.i64.wrap (((cT (L.take i)).length:Int)+(L[i].2.length:Int))=((cT (L.take (i+1))).length:Int):=by rw[gA]<;>omega
  repeat (first|with_reducible refine bZ ?_|with_reducible refine bL ?_|with_reducible refine cE ?_|with_reducible refine aZ ?_|with_reducible refine aW ?_|with_reducible refine cP ?_|(refine cF rfl (by simp only[hg,hlen,hlt,hw,jG,jK,go_sem,reduceIte,jA,jB,jC,jD,reduceCtorEq,jE,jF];try omega) ?_;simp only[hg,hlen,hlt,hw,jG,jK,go_sem,reduceIte,jA,jB,jC,jD,reduceCtorEq,jE,jF])|(with_reducible refine bS ?_))
  refine dM _ rfl (fun hc2=>?_) (fun hc2=>?_)
  ·have:=of_decide_eq_true hc2;omega
  repeat (first|with_reducible refine bZ ?_|with_reducible refine bL ?_|with_reducible refine cE ?_|with_reducible refine aZ ?_|with_reducible refine aW ?_|with_reducible refine cP ?_|(refine cF rfl (by simp only[ go_sem,reduceIte,jA,jB,jC,jD,reduceCtorEq,jE,jF];try omega) ?_;simp only[ go_sem,reduceIte,jA,jB,jC,jD,reduceCtorEq,jE,jF])|(with_reducible refine bS ?_))
  rw[gA or or,←hQ];refine aF (i+1) or ⟨or,rfl,or⟩ ?_;simp only[WkL,aD,jH,jI,jJ,go_sem,reduceIte,jA,jB,jC,jD,reduceCtorEq,jE,jF]
 have hge:i=L.length:=by have:=of_decide_eq_false hc;omega
 rw[←hQ];refine qT ?_;repeat (first|with_reducible refine mG ?_|with_reducible refine lF ?_|with_reducible refine lG ?_|with_reducible refine cG ZM ?_|with_reducible refine iV ?_|with_reducible refine aZ ?_)
 have hT:cT (L.take i)=cT L:=by rw[hge,Kt]
 rw[hT];repeat (first|with_reducible refine bZ ?_|with_reducible refine bL ?_|with_reducible refine cE ?_|with_reducible refine aZ ?_|with_reducible refine aW ?_|with_reducible refine cP ?_|(refine cF rfl (by simp only[ go_sem,reduceIte,jA,jB,jC,jD,reduceCtorEq,jE,jF];try omega) ?_;simp only[ go_sem,reduceIte,jA,jB,jC,jD,reduceCtorEq,jE,jF])|(with_reducible refine bS ?_))
 refine bF ((EQ hL0 (cT L).length or hbs _ _).dom.mono ?_);rintro v h3 nx3 aRq ⟨hv,aEJ,_⟩;unfold cY;refine Zn ?_;repeat (first|with_reducible refine bZ ?_|with_reducible refine bL ?_|with_reducible refine cE ?_|with_reducible refine aZ ?_|with_reducible refine aW ?_|with_reducible refine cP ?_|(refine cF rfl (by simp only[jK,go_sem,reduceIte,jA,jB,jC,jD,reduceCtorEq,jE,jF];try omega) ?_;simp only[jK,go_sem,reduceIte,jA,jB,jC,jD,reduceCtorEq,jE,jF])|(with_reducible refine bS ?_))
 obtain⟨I,hI⟩:∃I:Nat×V→Hp→Nat→Prop,∀i u h4 nx4,I (i,u) h4 nx4↔(i≤L.length∧nx≤nx4∧((cT L=[]∧u= .sl k .nil []∧h4=h2)∨(cT L≠ []∧∃id es,nx≤id∧id<nx4∧u= .rs id k 0 (cT (L.take i)).length∧(cT (L.take i)=[]∨es=cT (L.take i))∧h4 id=some (.arr k es)∧h2.le (h4.del id)))):=⟨fun p h4 nx4=>p.1≤L.length∧nx≤nx4∧((cT L=[]∧p.2= .sl k .nil []∧h4=h2)∨(cT L≠ []∧∃id es,nx≤id∧id<nx4∧p.2= .rs id k 0 (cT (L.take p.1)).length∧(cT (L.take p.1)=[]∨es=cT (L.take p.1))∧h4 id=some (.arr k es)∧h2.le (h4.del id))),fun _ _ _ _=>Iff.rfl⟩;simp only at aRq hv;have e0:cT ([]:List (Own×List V))=[]:=rfl;have aAo:∀n,nx≤n→h2 n=none:=fun n hn=>aS.none hd hn;refine aO (fun p:Nat×V=>aD 36 0 [(6,p.2),(25, .sl .leaf own (L.map fun p=> .sl k p.1 p.2)),(26, .int .i64 L.length),(27, .int .i64 p.1)]) I (fun p=>L.length-p.1) (0,v) ((hI _ _ _ _).2 ⟨Kq _,(by show nx≤nx3;omega),?_⟩) ?_ ?_
 ·rcases hv with⟨q1,rfl,rfl⟩|⟨q1,id,es,q2,rfl,rfl⟩
  ·exact .inl ⟨KW.1 q1,rfl,rfl⟩
  refine .inr ⟨fun e=>by rw[e] at q1;simp at q1,id,es,or,aEJ id (.arr k es) (by simp[Kc]),?_, .inl rfl,by simp[Kc],pF (iP (Kb _) (aAo id or) _) (aAo id or)⟩;simp[cT]
 ·simp only[WkL,aD,jH,jI,jJ,jK,go_sem,reduceIte,jA,jB,jC,jD,reduceCtorEq,jE,jF]
 rintro⟨i,u⟩ h4 nx4 hii;generalize hQ2:aV _ _ _ _ _=Q2;obtain⟨q1,q2,q3⟩:=(hI _ _ _ _).1 hii;refine Zk ?_;repeat (first|with_reducible refine bZ ?_|with_reducible refine bL ?_|with_reducible refine cE ?_|with_reducible refine aZ ?_|with_reducible refine aW ?_|with_reducible refine cP ?_|(refine cF rfl (by simp only[ go_sem,reduceIte,jA,jB,jC,jD,reduceCtorEq,jE,jF];try omega) ?_;simp only[ go_sem,reduceIte,jA,jB,jC,jD,reduceCtorEq,jE,jF])|(with_reducible refine bS ?_))
 refine dM _ rfl (fun hc4=>?_) (fun hc4=>?_)
 ·have hlt:i<L.length:=by have:=of_decide_eq_true hc4;omega
  have hg:=aJ (fun p:Own×List V=>V.sl k p.1 p.2) L i hlt;have hlen:(i:Int)<((L.map fun p=>V.sl k p.1 p.2).length:Int):=by simp;omega
  have aBl:=dg L i hlt;have h1:=l5 L (i+1);have h2':=congrArg Qz aBl;rw[KC] at h2';have hw:IntKind.i64.wrap ((i:Int)+1)=((i+1:Nat):Int):=by rw[gA]<;>omega
  repeat (first|with_reducible refine bZ ?_|with_reducible refine bL ?_|with_reducible refine cE ?_|with_reducible refine aZ ?_|with_reducible refine aW ?_|with_reducible refine cP ?_|with_reducible refine bS ?_)
  refine cF rfl (by simp only[hg,hlen,hlt,jG,jK,go_sem,reduceIte,jA,jB,jC,jD,reduceCtorEq,jE,jF];try omega) ?_;simp only[hg,hlen,hlt,jG,jK,go_sem,reduceIte,jA,jB,jC,jD,reduceCtorEq,jE,jF];repeat (first|with_reducible refine bZ ?_|with_reducible refine bL ?_|with_reducible refine cE ?_|with_reducible refine aZ ?_|with_reducible refine aW ?_|with_reducible refine cP ?_|with_reducible refine bS ?_)
  rcases q3 with⟨q4,rfl,rfl⟩|⟨q4,id,es,q5,q6,rfl,q7,q8,q9⟩
  ·have hy:L[i].2=[]:=by
    rw[q4] at h1;exact KW.1 (by simp at h1;rw[h1] at h2';simp at h2';omega)
   refine cF rfl (by simp only[hy,go_sem,reduceIte,jA,jB,jC,jD,reduceCtorEq,jE,jF];try omega) ?_;simp only[hy,go_sem,reduceIte,jA,jB,jC,jD,reduceCtorEq,jE,jF];rw[←hQ2];repeat (first|with_reducible refine bZ ?_|with_reducible refine bL ?_|with_reducible refine cE ?_|with_reducible refine aZ ?_|with_reducible refine aW ?_|with_reducible refine cP ?_|with_reducible refine bS ?_)
   refine cF rfl (by simp only[hw,go_sem,reduceIte,jA,jB,jC,jD,reduceCtorEq,jE,jF];try omega) ?_;simp only[hw,go_sem,reduceIte,jA,jB,jC,jD,reduceCtorEq,jE,jF];repeat (first|with_reducible refine bZ ?_|with_reducible refine bL ?_|with_reducible refine cE ?_|with_reducible refine aZ ?_|with_reducible refine aW ?_|with_reducible refine cP ?_|with_reducible refine bS ?_)
   refine aF (i+1, .sl k .nil []) (by(try simp only);omega) ((hI _ _ _ _).2 ⟨or,by(try simp only[go_sem,reduceIte,jA,jB,jC,jD,reduceCtorEq,jE,jF]);omega, .inl ⟨q4,rfl,rfl⟩⟩) ?_;simp only[WkL,aD,jH,jI,jJ,hw,go_sem,reduceIte,jA,jB,jC,jD,reduceCtorEq,jE,jF]
  refine nk 2 rfl (by simp only[go_sem,reduceIte,jA,jB,jC,jD,reduceCtorEq,jE,jF]) ?_;refine Zn ?_;by_cases hy:L[i].2=[]
  ·refine sT rfl q8 (by simp only[dS,hy,go_sem,reduceIte,jA,jB,jC,jD,reduceCtorEq,jE,jF]) ?_;refine cF rfl (by simp only[ go_sem,reduceIte,jA,jB,jC,jD,reduceCtorEq,jE,jF];try omega) ?_;refine Zn ?_;rw[←hQ2];repeat (first|with_reducible refine bZ ?_|with_reducible refine bL ?_|with_reducible refine cE ?_|with_reducible refine aZ ?_|with_reducible refine aW ?_|with_reducible refine cP ?_|with_reducible refine bS ?_)
   refine cF rfl (by simp only[hw,go_sem,reduceIte,jA,jB,jC,jD,reduceCtorEq,jE,jF];try omega) ?_;simp only[hw,go_sem,reduceIte,jA,jB,jC,jD,reduceCtorEq,jE,jF];repeat (first|with_reducible refine bZ ?_|with_reducible refine bL ?_|with_reducible refine cE ?_|with_reducible refine aZ ?_|with_reducible refine aW ?_|with_reducible refine cP ?_|with_reducible refine bS ?_)
   have aBM:cT (L.take (i+1))=cT (L.take i):=by rw[aBl,hy,Qb]
   refine aF (i+1, .rs id k 0 (cT (L.take i)).length) (by(try simp only);omega) ((hI _ _ _ _).2 ⟨or,by(try simp only[go_sem,reduceIte,jA,jB,jC,jD,reduceCtorEq,jE,jF]);omega, .inr ⟨q4,id,es,q5,by(try simp only[go_sem,reduceIte,jA,jB,jC,jD,reduceCtorEq,jE,jF]);omega,by rw[aBM],by rw[aBM];exact q7,q8,q9⟩⟩) ?_;simp only[WkL,aD,jH,jI,jJ,hw,go_sem,reduceIte,jA,jB,jC,jD,reduceCtorEq,jE,jF]
  have aR2:es.take (cT (L.take i)).length=cT (L.take i):=by
   rcases q7 with q7|q7
   ·rw[q7];rfl
   rw[q7,Kt]
  have hcl:(cT (L.take i)).length≤es.length:=by
   rcases q7 with q7|q7
   ·rw[q7];exact Kq _
   rw[q7];exact Kk _
  refine ba rfl q8 hcl (by simp only[dS,go_sem,reduceIte,jA,jB,jC,jD,reduceCtorEq,jE,jF]) hy (sP or hbs) ?_;refine cF rfl (by simp only[ go_sem,reduceIte,jA,jB,jC,jD,reduceCtorEq,jE,jF];try omega) ?_;refine Zn ?_;rw[←hQ2];repeat (first|with_reducible refine bZ ?_|with_reducible refine bL ?_|with_reducible refine cE ?_|with_reducible refine aZ ?_|with_reducible refine aW ?_|with_reducible refine cP ?_|with_reducible refine bS ?_)
  refine cF rfl (by simp only[hw,go_sem,reduceIte,jA,jB,jC,jD,reduceCtorEq,jE,jF];try omega) ?_;simp only[hw,go_sem,reduceIte,jA,jB,jC,jD,reduceCtorEq,jE,jF];repeat (first|with_reducible refine bZ ?_|with_reducible refine bL ?_|with_reducible refine cE ?_|with_reducible refine aZ ?_|with_reducible refine aW ?_|with_reducible refine cP ?_|with_reducible refine bS ?_)
  refine aF (i+1, .rs nx4 k 0 ((cT (L.take i)).length+L[i].2.length)) (by(try simp only);omega) ((hI _ _ _ _).2 ⟨or,by(try simp only[go_sem,reduceIte,jA,jB,jC,jD,reduceCtorEq,jE,jF]);omega, .inr ⟨q4,nx4,cT (L.take (i+1)),q2,by(try simp only[go_sem,reduceIte,jA,jB,jC,jD,reduceCtorEq,jE,jF]);omega,by rw[h2'], .inr rfl,?_,?_⟩⟩) ?_
  ·simp only[aR2,aBl,go_sem,reduceIte,jA,jB,jC,jD,reduceCtorEq,jE,jF]
  ·try simp only[go_sem,reduceIte,jA,jB,jC,jD,reduceCtorEq,jE,jF]
   intro m b e;have h5:=q9 m b e;have h6:=hd m b e;simp only[Hp.aAQ,Hp.aA6] at h5⊢;split at h5
   ·cases h5
   rename_i hne;rw[if_neg or,if_neg or,if_neg hne];exact h5
  simp only[WkL,aD,jH,jI,jJ,hw,go_sem,reduceIte,jA,jB,jC,jD,reduceCtorEq,jE,jF]
 have bB4:i=L.length:=by have:=of_decide_eq_false hc4;omega
 rw[←hQ2];refine qT ?_;repeat (first|with_reducible refine mG ?_|with_reducible refine lF ?_|with_reducible refine lG ?_|with_reducible refine cG ZM ?_|with_reducible refine iV ?_|with_reducible refine aZ ?_)
 repeat (first|with_reducible refine bZ ?_|with_reducible refine bL ?_|with_reducible refine cE ?_|with_reducible refine aZ ?_|with_reducible refine aW ?_|with_reducible refine cP ?_|(refine cF rfl (by simp only[ go_sem,reduceIte,jA,jB,jC,jD,reduceCtorEq,jE,jF];try omega) ?_;simp only[ go_sem,reduceIte,jA,jB,jC,jD,reduceCtorEq,jE,jF])|(with_reducible refine bS ?_))
 have hT2:cT (L.take i)=cT L:=by rw[bB4,Kt]
 rw[hT2] at q3;rcases q3 with⟨q4,rfl,rfl⟩|⟨q4,id,es,q5,q6,rfl,q7,q8,q9⟩
 ·exact dP (aC _ (Kb _) (.inl ⟨q4,rfl,rfl⟩))
 refine dP (aC (h2.set id (.arr k (cT L))) ?_ (.inr ⟨q4,id,q5,rfl,rfl⟩));have hes:es=cT L:=q7.resolve_left q4;subst hes;refine xO ?_ q8;intro m b e;have h5:=q9 m b e;simp only[Hp.aA6] at h5;split at h5
 ·cases h5
 exact h5
end
end Go.Proofs.YtgbiopfghdilnaaGreatDoor
namespace Go.Proofs.YtgbiopfghdilnaaGreatDoor
open Go.RowKit Go.Sort
attribute [local irreducible] Kz
theorem vW{P:Program}{f:FuncId}{args:List V}{h:Hp}{v:V}(hv:∀L,bI L args→v.names L)(hc:∀h' nx,h.has h'→aY P f args h' nx fun v' h'' _=>v'=v∧h''=h'):aK P f args h v:=by
 intro h' nx hh;have c:=hc h' nx hh;refine⟨c.1,fun K cargs hlv hrel aBz=>(c.2 K cargs hlv hrel aBz).mono ?_⟩;rintro e w' ⟨K',v',cv,h'',nx',rfl,he,hle,hvr,aCJ,aHT,hnx,rfl,rfl⟩;have aCV:K.le (K'.only fun n=>K'.live n∧n<nx):=⟨fun n hn=>⟨hle.live n hn,hlv n hn⟩,hle.mu,hle.tp,hle.fro,hle.imm,hle.cell,hle.shape,hle.below⟩;have hna:bI (fun n=>K'.live n∧n<nx) args:=eT fun i hi=>fQ (fun m hm=>⟨hle.live m hm,hlv m hm⟩) (aBz.2 i hi).names;exact⟨K'.only fun n=>K'.live n∧n<nx,v',cv,h'',nx,rfl,he,aCV,hvr.only _ (hv _ hna),hrel.back aCJ aCV.toV (fun n hn=>⟨hle.live n hn,hlv n hn⟩),fun n hn=>⟨hn.2,(aHT n hn.1).2⟩,Kk _,rfl,rfl,rfl⟩
theorem aY.wk{P:Program}{f:FuncId}{args:List V}{h h2:Hp}{nx:Nat}{R:V→Hp→Nat→Prop}(c:aY P f args h nx R)(hle:h.le h2):aY P f args h2 nx R:=⟨c.1,fun K cargs hl hrel hv=>c.2 K cargs hl (hrel.weaken hle) hv⟩
theorem yZ{yn:Nat}{J:Nat→Hp→Nat→Prop}{D:Hp→Nat→Prop}{xs:List (List V)}
 (hJ:∀i h nx nx',J i h nx→nx≤nx'→J i h nx') (hD:∀h nx nx',D h nx→nx≤nx'→D h nx')
 (hy:∀i (hi:i<xs.length) h nx,J i h nx→aS h nx→dZ Tryz.prog yn xs[i] h nx fun v h' nx'=>(v= .bool true∧J (i+1) h' nx')∨(v= .bool false∧D h' nx')):
 ∀(n:Nat) (e:Ex),SizeOf.sizeOf e≤n→(∃m,rN m e=true)→∀i,(∀j (hj:j<e.ts.length),xs[i+j]?=some [e.ts[j].v])→∀h nx,J i h nx→aS h nx→
  aY Tryz.prog 139 [e.v, .yld yn] h nx fun v h' nx'=>(v= .bool true∧J (i+e.ts.length) h' nx')∨(v= .bool false∧D h' nx')
 |0, .mk op t o ks,hn,_,_,_,_,_,_,_=>by simp at hn
 |n+1, .mk op t o ks,hn,⟨m,hm⟩,i,hx,h,nx,hj,hdm=>by
  refine aB L.bAI fun hd=>?_;rw[Kd];refine ZK ?_;have k0:=kl0 ks;cases ks with
  |nil=>
   have hx0:=hx 0 (by simp[Ke]);have e0:(Ex.mk op t o []).ts=[t]:=by simp[Ke]
   have hi:i<xs.length:=by
    rcases Ks i xs.length with h1|h1
    ·exact h1
    rw[Qk,List.getElem?_eq_none h1] at hx0;cases hx0
   have hxi:xs[i]=[t.v]:=by
    rw[Qk,KF hi] at hx0;simpa [e0] using hx0
   have Y:=hy i hi h (nx+1) (hJ _ _ _ _ hj or) (hdm.up or);rw[hxi] at Y;have k1:(((0:Nat):Int)==0)=true:=rfl;refine aue (e6 Ex.cs.eq_1 Ex.op.eq_1 Ex.t.eq_1 Ex.o.eq_1 Ex.kids.eq_1 k1) ?_;refine pD rfl ((Y.weaken (leo hdm)).mono ?_);rintro v h' nx' hle (⟨rfl,hv⟩|⟨rfl,hv⟩)
   ·unfold cY;refine Zn ?_;refine au ?_;refine aC h' (Kb _) (.inl ⟨rfl,?_⟩);rw[e0];exact hv
   unfold cY;refine Zn ?_;refine au ?_;exact aC h' (Kb _) (.inr ⟨rfl,hv⟩)
  |cons k r=>
   obtain⟨ks,hks⟩:∃ks,ks=k::r:=⟨_,rfl⟩;have hne:ks≠ []:=by rw[hks];simp
   have k1:((ks.length:Int)==0)=false:=by cases ks with|nil=>exact absurd rfl hne|cons a b=>exact bqf (by simp only[jL];omega)
   have e0:(Ex.mk op t o (k::r)).ts=ks.flatMap Ke:=by rw[Ex.aBr,if_neg (by simp[Kj]),hks];rfl
   rw[←hks] at hn hm⊢;obtain⟨hk2,hkr⟩:=pf hm;rw[e0] at hx;rw[←hks] at e0;rw[e0];have hsz:∀e∈ks,SizeOf.sizeOf e≤n:=fun e he=>by
    have:=KI he;simp only[Ex.mk.sizeOf_spec] at hn;omega
   refine aue (e7 Ex.cs.eq_1 Ex.op.eq_1 Ex.t.eq_1 Ex.o.eq_1 Ex.kids.eq_1 k1 (@jK Ex V)) ?_
   refine aO (fun q:Nat=>aD 27 0 [(1, .yld yn),(16, .sl (.agg 6) o (ks.map Ex.v)),(17, .int .i64 ks.length),(18, .int .i64 q)])
    (fun q hp nx1=>q≤ks.length∧aS hp nx1∧∃hq,J (i+((ks.take q).flatMap Ke).length) hq nx1∧hq.le hp)
    (fun q=>ks.length-q) 0 ⟨Kq _,by exact dmo hdm,h,hJ _ _ _ _ hj Zw,leo hdm⟩ (by simp only[WkL,aD,jH,jI,jJ,jK,go_sem,reduceIte,jA,jB,jC,jD,reduceCtorEq,jE,jF]) ?_
   rintro q hp nx1 ⟨hq,bAs,hq0,hj1,aAx⟩;generalize hQ:aV _ _ _ _ _=Q0;refine Zk ?_;rcases Ks q ks.length with hlt|hge
   ·have hc:decide ((q:Int)<(ks.length:Int))=true:=dct;have hg:=aJ Ex.v ks q hlt;have hw:IntKind.i64.wrap ((q:Int)+1)=((q+1:Nat):Int):=wrp;have hf:=Ki ks[q];have htk:(ks.take (q+1)).flatMap Ke=(ks.take q).flatMap Ke++ks[q].ts:=by rw[Kg hlt,KK];simp
    have aAy:ks.flatMap Ke=(ks.take q).flatMap Ke++(ks[q].ts++(ks.drop (q+1)).flatMap Ke):=by
     conv=>lhs;rw[←Qc q ks,Kx hlt]
     rw[KK,List.flatMap_cons]
    have bAn:=yZ hJ hD hy n ks[q] (hsz _ (Ku _)) (hkr _ (Ku _)) (i+((ks.take q).flatMap Ke).length) (fun j hj=>by
     have h2:=hx (((ks.take q).flatMap Ke).length+j) (by rw[aAy];simp only[KC];omega);rw[Qw,h2];have e3:(ks.flatMap Ke)[((ks.take q).flatMap Ke).length+j]'(by rw[aAy];simp only[KC];omega)=ks[q].ts[j]:=by
      simp only[aAy];rw[KJ or,KN or];congr 1;omega
     rw[e3])
    obtain⟨e,he⟩:∃e,ks[q]=e:=⟨_,rfl⟩;rw[he] at hg hf bAn htk;refine aue (e6 hc hg hlt hf (@jK Ex V) jG) ?_;refine bF (((bAn hq0 (nx1+2) (hJ _ _ _ _ hj1 or) ((bAs.le aAx).up or)).wk (Hp.le_trans aAx (leo bAs))).dom.mono ?_);rintro v h2 nx2 aAb ⟨hv,aBX,_⟩;rcases hv with⟨rfl,hv⟩|⟨rfl,hv⟩
    ·unfold cY;refine Zn ?_;refine aue hw ?_;rw[←hQ];refine aF (q+1) or ⟨hlt,aBX,h2,?_,Kb _⟩ (by simp only[WkL,aD,jH,jI,jJ,go_sem,reduceIte,jA,jB,jC,jD,reduceCtorEq,jE,jF]);rw[htk,KC,←Qw];exact hv
    unfold cY;refine Zn ?_;refine au ?_;rw[←hQ];refine au ?_;exact aC h2 (Kb _) (.inr ⟨rfl,hv⟩)
   have hc:decide ((q:Int)<(ks.length:Int))=false:=dcf;refine aue hc ?_;rw[←hQ];refine au ?_;rw[Ky or] at hj1;exact aC hq0 aAx (.inl ⟨rfl,hj1⟩)
theorem Fx(e:Ex)(he:rk e=true):Ft Tryz.prog 138 [.ept (.agg 6) [e.v] 0 0] KA (e.ts.map fun t=>[t.v]):=by
 intro yn J D h1 h2 h3 h4 h nx hj hdm;refine aB L.bAJ fun hd=>?_;obtain⟨ev,hev⟩:∃ev,e.v=ev:=⟨_,rfl⟩;have hf:=Ki e;have c:=yZ h2 h3 h4 _ e (Kk _) ⟨20,he⟩ 0 (fun j hj=>by simp[KF hj]) h nx hj hdm;rw[hev] at hf c⊢;refine ZK ?_;refine aue hf ?_;refine bF (c.mono ?_);rintro v h' nx' hle (⟨rfl,hv⟩|⟨rfl,hv⟩)
 ·unfold cY;refine Zn ?_;refine au ?_;refine⟨h',Kb _, .inl ?_⟩;simp only[jK];rw[Qj] at hv;exact hv
 unfold cY;refine Zn ?_;refine au ?_;exact⟨h',Kb _, .inr hv⟩
theorem vG(e:Ex)(h:Hp):aK Tryz.prog 89 [e.v] h (.fn (.func 138) [] [.ept (.agg 6) [e.v] 0 0]):=by
 have hf:=Ki e;refine vW (fun L hL=>by simpa [V.names,bI] using hL) fun h' nx hh=>aB L.bC2 fun hd=>?_;obtain⟨ev,hev⟩:∃ev,e.v=ev:=⟨_,rfl⟩;rw[hev] at hf⊢;refine ZK ?_;refine bZ ?_;generalize hR:kH _ _=R;refine aue hf ?_;rw[←hR];refine fX (di (t:=1) (n:=nx) (k:= .agg 6) (i:=0) (o:=0) (es:=[ev]) rfl (by simp only[go_sem,reduceIte,jA,jB,jC,jD,reduceCtorEq,jE,jF])) ?_;refine Zn ?_;refine au ?_;refine aC h' (fun m b e=>?_) ⟨rfl,rfl⟩;have:=hd _ _ e;simp only[Kh,Kc];rw[if_neg or,if_neg or];exact e
theorem FW:aE Tryz.prog 88=some (LB.Collect (.agg 4) 137):=Zz
theorem FZ:aE Tryz.prog 137=some (LB.aBT (.agg 4) (.agg [.str ⟨#[]⟩, .int .i64 0, .int .i64 0, .str ⟨#[]⟩]) 48):=Zz
theorem FY:aE Tryz.prog 87=some (LB.Concat (.agg 4) 48 9 136):=Zz
theorem FV:aE Tryz.prog 136=some (LB.Grow (.agg 4) (.agg [.str ⟨#[]⟩, .int .i64 0, .int .i64 0, .str ⟨#[]⟩]) 48 9):=Zz
theorem qL{P:Program}{f:FuncId}{args:List V}{h:Hp}{k:Sh}{es:List V}(hn:∀L,bI L es)(c:∀h' nx,h.has h'→aY P f args h' nx fun v h'' _=>rt nx h' k es v h''):aK P f args h (lst k es):=by
 refine dF (fun L=>bV hn L) fun h' nx hh=>?_;have c2:=aY.aG9 (k:=k) (G:=fun es'=>es'=es) ((c h' nx hh).mono fun v h'' _ _ hv=>⟨_,rfl,hv⟩);refine⟨c2.1,fun K cargs hlv hr hv=>((c2.mono (R':=fun v' h'' _=>v'.loose=lst k es∧h'.le h'') ?_).2 K cargs hlv hr hv)⟩;rintro v h'' nx' hnx ⟨es',rfl,hf⟩;exact⟨hf.loose,hf.le (fun m b hm=>hlv m (hr.lt m b hm))⟩
theorem pO(e:Ex)(he:rk e=true)(h:Hp):aK Tryz.prog 88 [.fn (.func 138) [] [.ept (.agg 6) [e.v] 0 0]] h (lst (.agg 4) (e.ts.map Ka)):=by
 refine qL (fun L=>aT (Km L) _) fun h' nx hh=>?_;have hl:=gT he;refine(w9 Ka Ko FW FZ rfl or _ _ KA e.ts (Fx e he) or h' nx (bD _)).mono ?_;rintro v h'' nx' _ (⟨h1,h2,h3⟩|⟨h1,id,h2,h3,h4⟩)
 ·rw[h1];exact .inl ⟨rfl,h2,h3⟩
 exact .inr ⟨by simpa using h1,id,h2,by rw[h3,jK],h4⟩
theorem ru(own o1 o2 o3:Own)(a b c:List Tr)(hl:a.length+b.length+c.length≤10000000)(h:Hp):aK Tryz.prog 87 [.sl .leaf own [trs o1 a,trs o2 b,trs o3 c]] h (lst (.agg 4) ((a++(b++c)).map Ka)):=by
 refine qL (fun L=>aT (Km L) _) fun h' nx hh=>?_;have hT:cT [(o1,a.map Ka),(o2,b.map Ka),(o3,c.map Ka)]=(a++(b++c)).map Ka:=by simp[cT]
 have c:=rg FY FV or own [(o1,a.map Ka),(o2,b.map Ka),(o3,c.map Ka)] Zm (by rw[hT];simp;omega) h' nx;exact c.mono fun v h'' _ _ hv=>by rw[hT] at hv;exact hv
end Go.Proofs.YtgbiopfghdilnaaGreatDoor
namespace Go.Proofs.YtgbiopfghdilnaaGreatDoor
open Go.RowKit Go.Sort
attribute [local irreducible] Kz
namespace LB
end LB
section
variable{P:Program}{α:Type} [DecidableEq α] [Inhabited α](e:α→V){k:Sh}{z:V}{q:nW}
end
namespace LB
end LB
theorem EP{hc h:Hp}{n:Nat}(hh:Kv hc h)(hn:hc n=none)(b:Blk):Kv hc (h.set n b):=fun m k e hb=>by
 unfold Kc;rw[if_neg (fun e2=>by rw[e2,hn] at e;cases e)];exact hh m k e hb
section
variable{P:Program}{α:Type} [Inhabited α](e:α→V){k:Sh}{z:V}
theorem wN{f:Nat}(aAL:∀x,(e x).fits k=true)(hL:aE P f=some (LB.aAi k))(p:α→Bool)(n:Nat)(l:List α)(g:Nat)(caps:List V)(h:Hp)(hn:h n=some (.arr k (l.map e)))(hp:∀x∈l,aK P g ([e x]++caps) h (.bool (p x)))(hl:l.length≤1000000000):
 aK P f [.rs n k 0 l.length, .fn (.func g) [] caps] h (.int .i64 (bH p l)):=by
 refine aH (fun L=>trivial) fun h' nx hh=>aB hL fun hd=>?_;have hn':=hh n _ hn rfl;refine ZK ?_;refine au ?_;refine aO (fun i:Nat=>aD 19 0 [(0, .rs n k 0 l.length),(1, .fn (.func g) [] caps),(7, .int .i64 l.length),(8, .int .i64 i)]) (fun i hp2 _=>i≤l.length∧hp2=h'∧∀x∈l.take i,p x=false) (fun i=>l.length-i) 0 ⟨Kq _,rfl,Zm⟩ ?_ ?_
 ·simp only[WkL,aD,jH,jI,jJ,go_sem,reduceIte,jA,jB,jC,jD,reduceCtorEq,jE,jF]
 rintro i hp2 nx1 ⟨hi,rfl,hno⟩;generalize hQ:aV _ _ _ _ _=Q0;refine Zk ?_;rcases Ks i l.length with hlt|hge
 ·have hc:decide ((i:Int)<(l.length:Int))=true:=decide_eq_true or;have hg:=aJ e l i hlt;have hw:IntKind.i64.wrap ((i:Int)+1)=((i+1:Nat):Int):=by rw[gA]<;>omega
  have htk:l.take (i+1)=l.take i++[l[i]]:=Kg hlt
  (repeat' (first|(with_reducible first|refine stp ?_|refine cG ZM ?_|refine pI (fun _=>?_) (fun _=>?_))|((first|(with_reducible refine lV ?_;first|refine jX rfl ?_ ?_|refine iO rfl (hp l[i] (Ku _)) (by simp only[go_sem,reduceIte,jA,jB,jC,jD,reduceCtorEq,jE,jF]) hh ?_|refine Zx ?_)|(with_reducible refine lZ ?_;first|refine kB rfl ?_ ?_|refine ZX ?_)|refine Zy ?_)<;>try simp only[hc,hg,hw,hlt,hn',aAL,jK,jG,jQ,go_sem,reduceIte,jA,jB,jC,jD,reduceCtorEq,jE,jF])|refine ZY ?_|omega))
  ·rename_i hx;rw[←hQ];refine au ?_;refine aC hp2 (Kb _) ⟨?_,rfl⟩;refine Zn ?_;rw[bH,(KD (p:=p) (xs:=l) (i:=i)).2 ⟨hlt,hx,fun j hj=>by simp[hno l[j] (KM.2 ⟨j,or,rfl⟩)]⟩]
  rename_i hx;rw[←hQ];refine aF (i+1) or ⟨hlt,rfl,fun x hx2=>?_⟩ ?_
  ·rw[htk] at hx2;rcases KY.1 hx2 with h1|h1
   ·exact hno x h1
   simp at h1;rw[h1];exact hx
  simp only[WkL,aD,jH,jI,jJ,go_sem,reduceIte,jA,jB,jC,jD,reduceCtorEq,jE,jF]
 have hc:decide ((i:Int)<(l.length:Int))=false:=decide_eq_false or;refine aue hc ?_;rw[←hQ];refine au ?_;refine aC hp2 (Kb _) ⟨?_,rfl⟩;refine Zn ?_;rw[show i=l.length by omega,Kt] at hno;rw[bH,KE.2 (fun x hx=>by simp[hno x hx])]
theorem wh(p:α→Bool)(l:List α):((bH p l==-1)=true↔∀x∈l,p x=false)∧∀i:Nat,bH p l=i→∃h:i<l.length,p l[i]=true∧∀x∈l.take i,p x=false:=by
 unfold bH;cases hf:l.findIdx? p with
 |none=>
  have:=KE.1 hf;refine⟨by simpa using this,fun i hi=>?_⟩;exact absurd hi (by simp only;omega)
 |some j=>
  obtain⟨h1,h2,h3⟩:=KD.1 hf;refine⟨⟨fun h=>?_,fun h=>?_⟩,fun i hi=>?_⟩
  ·exfalso;simp at h<;>omega
  ·have:=h l[j] (Ku _);rw[this] at h2;cases h2
  have:j=i:=by simp only at hi;omega
  subst this;refine⟨h1,h2,fun x hx=>?_⟩;obtain⟨q,hq,rfl⟩:=KM.1 hx;have:=h3 q or;simpa using this
end
theorem aun{G B p:Prop}(E:p)(k:B)(h:p→PLift B→G:=by
 intro E k
 (repeat' (first|(with_reducible first|refine stp ?_|refine cG (by decide) ?_)|((first|(with_reducible refine lV ?_;first|refine jX rfl ?_ ?_|refine aI (C1 _) rfl (aL _) ?_|refine aI (C2 _) rfl (aL _) ?_|refine aI (C3 _) rfl (aL _) ?_|refine aI (C4 _) rfl (aL _) ?_|refine aI C5 rfl (aL _) ?_|refine aI C6 rfl (aL _) ?_|(first|refine eN rfl ?_|refine eO rfl ?_)|refine dG rfl ?_)|(with_reducible refine lZ ?_;first|refine kB rfl ?_ ?_|refine bM (D1 _) rfl (bD _) ?_|refine bM (D2 _) rfl (bD _) ?_|refine bM (D3 _) rfl (bD _) ?_|refine bM (D4 _) rfl (bD _) ?_|refine bM (D5 _) rfl (bD _) ?_|refine bM (D6 _) rfl (bD _) ?_|refine iw rfl rfl (by decide) (by(simp only[dD,go_sem,reduceIte,jA,jB,jC,jD,reduceCtorEq,jE,jF])<;>try omega) (by simp only[go_sem,reduceIte,jA,jB,jC,jD,reduceCtorEq,jE,jF]) (by simp only[go_sem,reduceIte,jA,jB,jC,jD,reduceCtorEq,jE,jF]) (by simp only[E,go_sem,reduceIte,jA,jB,jC,jD,reduceCtorEq,jE,jF]) ?_|(first|refine eP rfl ?_|refine eQ rfl ?_)|refine dH rfl ?_|refine gN (gR ?_)|refine gN (kA ?_))|(with_reducible refine mA ?_;refine gP rfl ?_))<;>try simp only[E,jK,go_sem,reduceIte,jA,jB,jC,jD,reduceCtorEq,jE,jF])|(with_reducible refine lY ?_;refine iD rfl ?_)|omega))
 exact k.down):G:=h E ⟨k⟩
def OwL(h:Hp)(n0:Nat)(k:Sh)(es:List V)(v:V):Prop:=(es=[]∧v= .sl k .nil [])∨(es≠ []∧∃id,n0≤id∧v= .rs id k 0 es.length∧h id=some (.arr k es))
theorem OwL.le{h h':Hp}{n0:Nat}{k:Sh}{es:List V}{v:V}(o:OwL h n0 k es v)(hle:h.le h'):OwL h' n0 k es v:=o.imp id fun⟨a,i,b,c,d⟩=>⟨a,i,b,c,hle _ _ d⟩
theorem C8(n:Nat)(l:List ByteArray)(hl:l.length≤1000000000)(x:ByteArray)(h:Hp)(hn:h n=some (.arr .leaf (l.map V.str))):aK Tryz.prog 82 [.rs n .leaf 0 l.length, .str x] h (.int .i64 (bH (fun y=>decide (x=y)) l)):=by
 refine aH (fun L=>trivial) fun h' nx hh=>aB L.aTl fun hd=>?_;refine ZK ?_;have hn1:=hh _ _ hn rfl;have hn2:n<nx:=hd _ _ hn1;refine aue trivial ?_;refine aO (fun i:Nat=>aD 19 0 [(0, .rs n .leaf 0 l.length),(1, .str x),(7, .int .i64 l.length),(8, .int .i64 i)]) (fun i hp nx1=>i≤l.length∧hp=h'∧∀y∈l.take i,decide (x=y)=false) (fun i=>l.length-i) 0 ⟨Kq _,rfl,Zm⟩ (by simp only[WkL,aD,jH,jI,jJ,go_sem,reduceIte,jA,jB,jC,jD,reduceCtorEq,jE,jF]) ?_;rintro i hp nx1 ⟨hi,rfl,hno⟩;generalize hQ:aV _ _ _ _ _=Q0;refine Zk ?_;rcases Ks i l.length with hlt|hge
 ·have hc:decide ((i:Int)<(l.length:Int))=true:=dct;have hg:=aJ V.str l i hlt;have hw:IntKind.i64.wrap ((i:Int)+1)=((i+1:Nat):Int):=wrp;have hbe:=dN x l[i];have z0:0+i=i:=Qj _;cases k:decide (x=l[i]) with
  |true=>
   rw[k] at hbe;refine aue (e8 hc hg hbe hlt (jG i) hn1 z0 (@jK ByteArray V)) ?_;rw[←hQ];refine au ?_;have:l.findIdx? (fun y=>decide (x=y))=some i:=by
    rw[KD];refine⟨hlt,k,fun j hj=>?_⟩;have:=hno l[j] (KM.2 ⟨j,or,rfl⟩);simp[this]
   exact aC hp (leo hd) ⟨by simp only[bH,this];rfl,rfl⟩
  |false=>
   rw[k] at hbe;refine aue (e9 hc hg hbe hlt (jG i) hw hn1 z0 (@jK ByteArray V)) ?_;rw[←hQ];refine aF (i+1) or ⟨or,rfl,fun y hy=>?_⟩ (by simp only[WkL,aD,jH,jI,jJ,go_sem,reduceIte,jA,jB,jC,jD,reduceCtorEq,jE,jF]);rw[Kg hlt,KY,List.mem_singleton] at hy;rcases hy with hy|rfl
   ·exact hno y hy
   exact k
 have hc:decide ((i:Int)<(l.length:Int))=false:=dcf;refine aue hc ?_;rw[←hQ];refine au ?_;have hi':i=l.length:=or;rw[hi',Kt] at hno;have:l.findIdx? (fun y=>decide (x=y))=none:=by
  rw[KE];exact fun y hy=>hno y hy
 exact aC hp (leo hd) ⟨by simp only[bH,this];rfl,rfl⟩
theorem j5{h:Hp}{n0:Nat}{l:List ByteArray}{v:V}(hv:OwL h n0 .leaf (l.map V.str) v)(hl:l.length≤1000000000)(x:ByteArray):aK Tryz.prog 41 [v, .str x] h (.bool (bP x l)):=by
 rcases hv with⟨h1,rfl⟩|⟨h1,id,h2,rfl,h3⟩
 ·have:l=[]:=by simpa using h1
  subst this;exact kC .nil [] Zm x h
 refine aH (fun L=>trivial) fun h' nx hh=>aB L.bBB fun hd=>?_;have C5:=C8 id l hl x h' (hh _ _ h3 rfl);simp only[jK,jL,jM,jA,jB,jN,jO,jP,jQ,V.undef];refine au ?_;exact aC h' (leo hd) ⟨by unfold bP;rw[←rH];rfl,rfl⟩
theorem xT(o:Own)(ts:List Tr)(ht:ts.length≤100000000)(l:List ByteArray)(hl:l.length≤100000000)(v0:V)(h:Hp)(nx n0:Nat)(hn0:n0≤nx)(hv0:OwL h n0 .leaf (l.map V.str) v0):
 aY Tryz.prog 44 [v0,trs o ts] h nx fun v h' nx'=>OwL h' n0 .leaf ((nmL l ts).map V.str) v∧Kf n0 h h':=by
 refine aB L.bEA fun hd=>?_;refine ZK ?_;refine aue (e2 trs.eq_1 (@jK Tr V)) ?_
 refine aO (fun q:Nat×V×List ByteArray=>aD 30 0 [(0,q.2.1),(7, .sl (.agg 4) o (ts.map Ka)),(8, .int .i64 ts.length),(9, .int .i64 q.1)])
  (fun q hp nx1=>q.1≤ts.length∧nx≤nx1∧aS hp nx1∧Kf n0 h hp∧OwL hp n0 .leaf (q.2.2.map V.str) q.2.1∧q.2.2=nmL l (ts.take q.1)∧q.2.2.length≤l.length+q.1)
  (fun q=>ts.length-q.1) (0,v0,l) ⟨Kq _,Kk _,hd,Hp.same.aAn,hv0,rfl,Kk _⟩ (by simp only[WkL,aD,jH,jI,jJ,jK,go_sem,reduceIte,jA,jB,jC,jD,reduceCtorEq,jE,jF]) ?_
 rintro⟨i,v,l1⟩ hp nx1 ⟨hi,hnx,hdm,hsm,aBF,hl1,hlen⟩;generalize hQ:aV _ _ _ _ _=Q0;dsimp only at hi aBF hl1 hlen;refine Zk ?_;rcases Ks i ts.length with hlt|hge
 ·have hc:decide ((i:Int)<(ts.length:Int))=true:=dct;have hg:=aJ Ka ts i hlt;have hw:IntKind.i64.wrap ((i:Int)+1)=((i+1:Nat):Int):=wrp;have aAT:nmL l (ts.take (i+1))=nmT l1 ts[i]:=by rw[Kg hlt,br,←hl1];rfl
  generalize ts[i]=T at hg aAT;have hTf:=Ko T;have h0:=vI T.x;have hne:(!(T.x.toList==(⟨#[]⟩:ByteArray).toList))= !decide (T.x.size=0):=by rw[h0]
  unfold nmT at aAT;by_cases hz:T.x.size=0
  ·have g1:decide (T.x.size=0)=true:=dct;rw[if_neg (by simp[hz])] at aAT;refine aue (e9 hc hg hlt Tr.v.eq_1 h0 g1 hw (@jK Tr V) jG) ?_;rw[←hQ];exact aF (i+1,v,l1) Zw ⟨hlt,or,dmo hdm,kep hsm,aBF.le (leo hdm),aAT.symm,Zw⟩ (by simp only[WkL,aD,jH,jI,jJ,go_sem,reduceIte,jA,jB,jC,jD,reduceCtorEq,jE,jF])
  have g1:decide (T.x.size=0)=false:=dcf;have C:=j5 aBF or T.x;cases hb:bP T.x l1 with
  |true=>
   rw[hb] at C;rw[if_neg (by simp[hb])] at aAT;refine aue (e8 hc hg hlt Tr.v.eq_1 h0 g1 (@jK Tr V) jG) ?_;refine aI C rfl (yG (leo hdm)) ?_;refine Zn ?_;refine aue (e2 hw hc) ?_;rw[←hQ];exact aF (i+1,v,l1) Zw ⟨hlt,or,dmo hdm,kep hsm,aBF.le (leo hdm),aAT.symm,Zw⟩ (by simp only[WkL,aD,jH,jI,jJ,go_sem,reduceIte,jA,jB,jC,jD,reduceCtorEq,jE,jF])
  |false=>
   rw[hb] at C;rw[if_pos (by simp[hb,hz])] at aAT;refine aue (e8 hc hg hlt Tr.v.eq_1 h0 g1 (@jK Tr V) jG) ?_;refine aI C rfl (yG (leo hdm)) ?_;refine Zn ?_;rcases aBF with⟨q1,rfl⟩|⟨q1,id,q2,rfl,q3⟩
   ·have hl0:l1=[]:=by simpa using q1
    subst hl0;refine aun (e4 hc Tr.v.eq_1 (@jK Tr V) hw) ?_;refine iK rfl rfl Zm (by simp only[jL,jM];omega) ?_;refine Zn ?_;refine aue hw ?_;rw[←hQ];refine aF (i+1, .rs (nx1+3) .leaf 0 1,[T.x]) Zw ⟨hlt,or,dmo hdm,kep hsm, .inr ⟨Zm,nx1+3,or,Zm,by simp only[go_sem,reduceIte,jA,jB,jC,jD,reduceCtorEq,jE,jF]⟩,aAT.symm,by simp;omega⟩ (by simp only[WkL,aD,jH,jI,jJ,go_sem,reduceIte,jA,jB,jC,jD,reduceCtorEq,jE,jF])
   have hid:id<nx1:=hdm _ _ q3;have hlm:(l1.map V.str).length=l1.length:=jK ..;have htk:(l1.map V.str).take l1.length=l1.map V.str:=Ky Zm;refine aue (e10 hc Tr.v.eq_1 (@jK Tr V) hw q3 hid hlm htk hlen (@jK ByteArray V)) ?_;rw[←hQ];refine aF (i+1, .rs (nx1+3) .leaf 0 (l1.length+1),l1++[T.x]) Zw ⟨hlt,or,dmo hdm,kep hsm, .inr ⟨Zm,nx1+3,or,Zm,by simp only[KB,KQ,KG,go_sem,reduceIte,jA,jB,jC,jD,reduceCtorEq,jE,jF]⟩,aAT.symm,by simp;omega⟩ (by simp only[WkL,aD,jH,jI,jJ,go_sem,reduceIte,jA,jB,jC,jD,reduceCtorEq,jE,jF])
 have hc:decide ((i:Int)<(ts.length:Int))=false:=dcf;refine aue hc ?_;rw[←hQ];refine au ?_;rw[Ky or] at hl1;exact aC hp (Kb _) ⟨by rw[←hl1];exact aBF,hsm⟩
end Go.Proofs.YtgbiopfghdilnaaGreatDoor
namespace Go.Proofs.YtgbiopfghdilnaaGreatDoor
open Go.RowKit Go.Sort
attribute [local irreducible] Kz
theorem aY.down{P:Program}{f:FuncId}{args:List V}{h:Hp}{nx:Nat}{R R':V→Hp→Nat→Prop}(c:aY P f args h nx R)(hc:∀v h' nx',nx≤nx'→aS h' nx'→R v h' nx'→∃h2,h2.le h'∧R' v h2 nx'):aY P f args h nx R':=
 ⟨c.1,fun K cargs hlv hrel hv=>(c.2 K cargs hlv hrel hv).mono fun _ _ ⟨K',v,cv,h',nx',a,b,q,d,e,g,i,j⟩=>by
   obtain⟨h2,k1,k2⟩:=hc v h' nx' i (fun m b hm=>(g m (e.lt m b hm)).1) j;exact⟨K',v,cv,h2,nx',a,b,q,d,e.weaken k1,g,i,k2⟩⟩
theorem ue{P:Program}{f:FuncId}{args:List V}{h:Hp}{k:Sh}{es:List V}(hn:∀L,bI L es)(c:∀h' nx,h.has h'→aY P f args h' nx fun v h'' _=>OwL h'' nx k es v∧Kf nx h' h''):aK P f args h (lst k es):=by
 refine qL hn fun h' nx hh=>⟨(c h' nx hh).1,fun K cargs hlv hrel aBz=>?_⟩;have hd:aS h' nx:=fun m b e=>hlv m (hrel.lt m b e);refine((c h' nx hh).down (R':=fun v h'' _=>rt nx h' k es v h'') ?_).2 K cargs hlv hrel aBz;rintro v h'' nx' hnx hdm ⟨⟨h1,h2⟩|⟨h1,id,h2,h3,h4⟩,hs⟩
 ·exact⟨h',hs.le hd (Kb _), .inl ⟨h1,h2,rfl⟩⟩
 refine⟨h'.set id (.arr k es),fun m b e=>?_, .inr ⟨h1,id,h2,h3,rfl⟩⟩;simp only[Kc] at e;split at e
 ·rename_i hm;rw[hm,h4];exact e
 exact hs.le hd (Kb _) m b e
theorem ai(l:Li)(hl:bG l=true)(h:Hp):aK Tryz.prog 45 [l.v] h (lst (.agg 4) (l.ts.map Ka)):=by
 refine aH (fun L=>bV (fun L=>aT (Km L) _) L) fun h' nx hh=>aB L.bD9 fun hd=>?_;have b0:=fY hl;obtain⟨b1,b2,b3⟩:=iL hl;have b4:=gT b2;have b5:=gT b3;obtain⟨o2,ho2⟩:=bQ (.agg 4) (l.x.ts.map Ka);obtain⟨o3,ho3⟩:=bQ (.agg 4) (l.y.ts.map Ka);have D1:∀h:Hp,aK Tryz.prog 89 [.agg [.int .i64 l.x.op, .str l.x.t.x, .int .i64 l.x.t.w.k, .int .i64 l.x.t.w.n, .str l.x.t.w.s, .sl (.agg 6) l.x.o (l.x.kids.map Ex.v)]] h (.fn (.func 138) [] [.ept (.agg 6) [l.x.v] 0 0]):=fun h=>(show V.agg l.x.cs=_ from rfl)▸Kd l.x▸vG l.x h;have D3:∀h:Hp,aK Tryz.prog 89 [.agg [.int .i64 l.y.op, .str l.y.t.x, .int .i64 l.y.t.w.k, .int .i64 l.y.t.w.n, .str l.y.t.w.s, .sl (.agg 6) l.y.o (l.y.kids.map Ex.v)]] h (.fn (.func 138) [] [.ept (.agg 6) [l.y.v] 0 0]):=fun h=>(show V.agg l.y.cs=_ from rfl)▸Kd l.y▸vG l.y h;have D2:∀h:Hp,aK Tryz.prog 88 [.fn (.func 138) [] [.ept (.agg 6) [l.x.v] 0 0]] h (.sl (.agg 4) o2 (l.x.ts.map Ka)):=fun h=>ho2▸pO l.x b2 h;have D4:∀h:Hp,aK Tryz.prog 88 [.fn (.func 138) [] [.ept (.agg 6) [l.y.v] 0 0]] h (.sl (.agg 4) o3 (l.y.ts.map Ka)):=fun h=>ho3▸pO l.y b3 h;have D5:∀(n:Nat) (h:Hp),aK Tryz.prog 87 [.sl .leaf (.tok n) [trs l.a.o l.a.l,trs o2 l.x.ts,trs o3 l.y.ts]] h (lst (.agg 4) (l.ts.map Ka)):=fun n h=>ru _ _ _ _ _ _ _ or h;obtain⟨X,hX⟩:∃X,l.x.v=X:=⟨_,rfl⟩;obtain⟨Y,hY⟩:∃Y,l.y.v=Y:=⟨_,rfl⟩;rw[hX] at D1 D2;rw[hY] at D3 D4;rw[Li.aAV];refine ZK ?_;have D5:=D5 (nx+12);refine aue trs.eq_1 ?_;exact aC h' (leo hd) ⟨rfl,rfl⟩
theorem zL(o:Own)(ts:List Tr)(ht:ts.length≤100000000)(h:Hp):aK Tryz.prog 44 [.sl .leaf .nil [],trs o ts] h (lst .leaf ((nmL [] ts).map V.str)):=by
 exact ue (fun L=>aT (f:=V.str) (fun x=>trivial) _) fun h' nx hh=>xT o ts ht [] Zm _ h' nx nx (Kk _) (.inl ⟨rfl,rfl⟩)
theorem xH(l:Li)(hl:bG l=true)(h:Hp):aK Tryz.prog 40 [l.v] h (lst .leaf (l.vars.map V.str)):=by
 refine aH (fun L=>bV (fun L=>aT (f:=V.str) (fun x=>trivial) _) L) fun h' nx hh=>aB L.bED fun hd=>?_;have b0:=fY hl;obtain⟨o2,ho2⟩:=bQ (.agg 4) (l.ts.map Ka);have C1:=fun h=>ho2▸ai l hl h;have C2:=fun h=>zL o2 l.ts or h;obtain⟨X,hX⟩:∃X,l.v=X:=⟨_,rfl⟩;have hf:=Li.aAA l;rw[hX] at C1 hf⊢;refine ZK ?_;refine aue hf ?_;exact aC h' (leo hd) ⟨rfl,rfl⟩
theorem BP(e:Ex)(he:rk e=true)(h:Hp):aK Tryz.prog 176 [e.v] h (lst .leaf ((nmL [] e.ts).map V.str)):=by
 refine aH (fun L=>bV (fun L=>aT (f:=V.str) (fun x=>trivial) _) L) fun h' nx hh=>aB L.aZU fun hd=>?_;have b0:=gT he;obtain⟨o2,ho2⟩:=bQ (.agg 4) (e.ts.map Ka);have C1:=fun h=>vG e h;have C2:=fun h=>ho2▸pO e he h;have C3:=fun h=>zL o2 e.ts or h;obtain⟨X,hX⟩:∃X,e.v=X:=⟨_,rfl⟩;have hf:=Ki e;rw[hX] at C1 C2 hf⊢;refine ZK ?_;refine aue hf ?_;exact aC h' (leo hd) ⟨rfl,rfl⟩
theorem A3(r:Ru)(hr:bT r=true)(h:Hp)(nx:Nat):aY Tryz.prog 12 [r.v] h nx fun v h' nx'=>OwL h' nx .leaf (r.vars.map V.str) v∧Kf nx h h':=by
 refine aB L.g6z fun hd=>?_;obtain⟨b1,b2,b3⟩:=cM hr;have hlen:=db hr;refine ZK ?_;refine aue (e3 Ru.v.eq_1 trs.eq_1 (@jK Li V)) ?_;refine bF ((xT r.h.o r.h.l or [] Zm _ _ (nx+1) (nx+1) or (.inl ⟨rfl,rfl⟩)).dom.mono ?_);rintro v1 h1 nx1 aAx ⟨⟨ho1,hs1⟩,hd1,_⟩;unfold cY;refine Zn ?_;have hb1:h1 nx=some (.arr (.agg 6) [.agg [.str r.h.r, .sl (.agg 4) r.h.o (r.h.l.map Ka), .int .i64 r.g, .int .i64 r.c, .sl (.agg 17) r.o (r.b.map Li.v), .int .i64 r.at_]]):=by rw[hs1 nx or];simp only[go_sem,reduceIte,jA,jB,jC,jD,reduceCtorEq,jE,jF]
 have n1:nx<nx1:=hd1 _ _ hb1;refine aue (e3 hb1 n1 (@jK Li V)) ?_;have hs0:Kf nx h h1:=fun m hm=>by rw[hs1 m or];simp only[Kc];rw[if_neg or]
 refine aO (fun q:Nat×V=>aD 23 0 [(3,q.2),(11, .sl (.agg 17) r.o (r.b.map Li.v)),(12, .int .i64 r.b.length),(13, .int .i64 q.1)])
  (fun q hp nx2=>q.1≤r.b.length∧nx1≤nx2∧aS hp nx2∧Kf nx h hp∧OwL hp (nx+1) .leaf ((yX (r.b.take q.1) (nmL [] r.h.l)).map V.str) q.2)
  (fun q=>r.b.length-q.1) (0,v1) ⟨Kq _,Zw,dmo hd1,hs0,ho1⟩ (by simp only[WkL,aD,jH,jI,jJ,jK,go_sem,reduceIte,jA,jB,jC,jD,reduceCtorEq,jE,jF]) ?_
 rintro⟨i,v⟩ hp nx2 ⟨hi,hnx,hdm,hsm,aBF⟩;generalize hQ:aV _ _ _ _ _=Q0;dsimp only at hi aBF;refine Zk ?_;rcases Ks i r.b.length with hlt|hge
 ·have hc:decide ((i:Int)<(r.b.length:Int))=true:=dct;have hg:=aJ Li.v r.b i hlt;have hw:IntKind.i64.wrap ((i:Int)+1)=((i+1:Nat):Int):=wrp;have aAT:=yj r.b (nmL [] r.h.l) i hlt;have hrl:=b3 r.b[i] (Ku _);have hlv:=hlen i;generalize r.b[i]=T at hg aAT hrl;have b0:=fY hrl;obtain⟨o2,ho2⟩:=bQ (.agg 4) (T.ts.map Ka);have C1:=fun h=>ho2▸ai T hrl h;obtain⟨X,hX⟩:∃X,T.v=X:=⟨_,rfl⟩;have hTf:=Li.aAA T;rw[hX] at hg C1 hTf;refine aue (e6 hc hg hlt hTf (@jK Li V) jG) ?_;refine bF ((xT o2 T.ts or _ or v _ (nx2+2) (nx+1) or (aBF.le (leo hdm))).dom.mono ?_);rintro v2 h2 nx3 aAb ⟨⟨ho3,hs3⟩,hd3,_⟩;unfold cY;refine Zn ?_;refine aue hw ?_;rw[←hQ];refine aF (i+1,v2) Zw ⟨hlt,or,dmo hd3,fun m hm=>?_,by rw[aAT];exact ho3⟩ (by simp only[WkL,aD,jH,jI,jJ,go_sem,reduceIte,jA,jB,jC,jD,reduceCtorEq,jE,jF]);rw[hs3 m or,←hsm m hm];simp only[Kc];rw[if_neg or,if_neg or]
 have hc:decide ((i:Int)<(r.b.length:Int))=false:=dcf;refine aue hc ?_;rw[←hQ];refine au ?_;rw[Ky or] at aBF;refine aC hp (Kb _) ⟨aBF.imp id fun⟨a,i,b,c,d⟩=>⟨a,i,or,c,d⟩,hsm⟩
theorem dv(n:Nat)(h:n≤300000000000000):IntKind.i64.wrap ((n:Int).tdiv 50)=((n / 50:Nat):Int):=by
 have e:((n / 50:Nat):Int)=(n:Int).tdiv 50:=Int.ofNat_tdiv n 50;rw[←e];exact gA or or
theorem sw(t:Tr)(r:List Tr)(l:Int):gZ (t::r) l=if l-eH t<0 then-1 else gZ r (l-eH t):=rfl
theorem AB(k:Ex)(r:List Ex)(l:Int):iG (k::r) l=if l<0 then-1 else iG r (kU k l):=by rw[iG]
theorem Di(l:Int):iG [] l=l:=by rw[iG]
theorem Ap(b:Li)(r:List Li)(l:Int):qV (b::r) l=if l<0 then-1 else qV r (yD b l):=rfl
theorem gw(a:Am)(ha:a.s47)(l:Int)(hl:-100000000000000≤l∧l≤300)(h:Hp):aK Tryz.prog 34 [a.v, .int .i64 l] h (.int .i64 (fG a l)):=by
 refine aH (fun L=>trivial) fun h' nx hh=>aB L.bEI fun hd=>?_;obtain⟨r,o,ts⟩:=a;refine ZK ?_;have hn:=wA ha;have hr:r.size≤kE:=ha.1;unfold kE at hr;dsimp only at hn;have d1:=dv r.size or;have hat:fG ⟨r,o,ts⟩ l=gZ ts (l-(1+((r.size / 50:Nat):Int))):=rfl;rw[hat];generalize ((r.size / 50:Nat):Int)=D at hn d1;have d2:IntKind.i64.wrap (1+D)=1+D:=wrp;have d3:IntKind.i64.wrap (l-(1+D))=l-(1+D):=wrp;refine aue (e6 Am.v.eq_1 d1 d2 d3 trs.eq_1 (@jK Tr V)) ?_
 refine aO (fun q:Nat×Int=>aD 37 0 [(1, .int .i64 q.2),(15,trs o ts),(16, .int .i64 ts.length),(17, .int .i64 q.1)])
  (fun q hp nx1=>q.1≤ts.length∧nx≤nx1∧aS hp nx1∧Kf nx h' hp∧gZ ts (l-(1+D))=gZ (ts.drop q.1) q.2∧-200000000000000≤q.2∧q.2≤300-q.1∧q.1≤301)
  (fun q=>ts.length-q.1) (0,l-(1+D)) ⟨Kq _,Zw,by exact dmo hd,by exact kep Hp.same.aAn,rfl,Zw,Zw,Zw⟩ (by simp only[WkL,aD,jH,jI,jJ,trs,go_sem,reduceIte,jA,jB,jC,jD,reduceCtorEq,jE,jF]) ?_
 rintro⟨i,c⟩ hp nx1 ⟨hi,hnx,hdm,hsm,hTe,hb1,hb2,hb3⟩;generalize hQ:aV _ _ _ _ _=Q0;dsimp only at hi hTe hb1 hb2 hb3;refine Zk ?_;have hle:=hsm.le hd (Kb _);rcases Ks i ts.length with hlt|hge
 ·have hc:decide ((i:Int)<(ts.length:Int))=true:=dct;have hg:=aJ Ka ts i hlt;have hdr:ts.drop i=ts[i]::ts.drop (i+1):=Kx hlt;have bAh:ts[i].s47:=ha.2 _ (Ku _);have hcb:=oR bAh;rw[hdr,sw] at hTe;have hct:eH ts[i]=1+((ts[i].x.size+ts[i].w.s.size)/ 50:Nat):=rfl;obtain⟨q1,q2⟩:=bAh;unfold kE at q1 q2;obtain⟨N,hN⟩:∃N,ts[i].x.size+ts[i].w.s.size=N:=⟨_,rfl⟩;rw[hN] at hct;have w1:IntKind.i64.wrap ((ts[i].x.size:Int)+(ts[i].w.s.size:Int))=(N:Int):=wrp;have w2:=dv N or;obtain⟨D2,hD2⟩:∃D2,N / 50=D2:=⟨_,rfl⟩;rw[hD2] at w2 hct;have w3:IntKind.i64.wrap (1+(D2:Int))=eH ts[i]:=wrp;have w4:IntKind.i64.wrap (c-eH ts[i])=c-eH ts[i]:=wrp;by_cases aBq:c-eH ts[i]<0
  ·have g1:decide (c-eH ts[i]<0)=true:=dct;rw[if_pos aBq] at hTe;refine aue (e12 hc hg hlt w1 w2 w3 w4 g1 Tr.v.eq_1 trs.eq_1 (@jK Tr V) jG) ?_;rw[←hQ];refine au ?_;refine aC h' (lef hd hle) ⟨?_,rfl⟩;rw[hTe];rfl
  have g1:decide (c-eH ts[i]<0)=false:=dcf;have hw:IntKind.i64.wrap ((i:Int)+1)=((i+1:Nat):Int):=wrp;rw[if_neg aBq] at hTe;refine aue (e13 hc hg hlt w1 w2 w3 w4 g1 Tr.v.eq_1 trs.eq_1 (@jK Tr V) jG hw) ?_;rw[←hQ];exact aF (i+1,c-eH ts[i]) Zw ⟨hlt,or,dmo hdm,kep hsm,hTe,Zw,Zw,Zw⟩ (by simp only[WkL,aD,jH,jI,jJ,trs,go_sem,reduceIte,jA,jB,jC,jD,reduceCtorEq,jE,jF])
 have hc:decide ((i:Int)<(ts.length:Int))=false:=dcf;refine aue hc ?_;rw[←hQ];refine au ?_;refine aC h' hle ⟨?_,rfl⟩;rw[hTe,KP hge];rfl
theorem yF:∀(n:Nat) (e:Ex),SizeOf.sizeOf e≤n→e.s47→∀(l:Int),(-100000000000000≤l∧l≤300)→∀(h:Hp),aK Tryz.prog 35 [e.v, .int .i64 l] h (.int .i64 (kU e l))
 |0, .mk op t o ks,h,_,_,_,_=>by simp at h
 |n+1, .mk op t o ks,hz,hs,l,hl,h=>by
  have hcb:=oR hs.1;have hk:∀e∈ks,SizeOf.sizeOf e≤n∧e.s47:=fun e he=>by
   refine⟨?_,Ex.aA9.1 hs.2 e he⟩;have:=KI he;simp only[Ex.mk.sizeOf_spec] at hz;omega
  refine aH (fun L=>trivial) fun h' nx hh=>aB L.bEH fun hd=>?_;rw[Kd];refine ZK ?_;have hat:kU (.mk op t o ks) l=iG ks (l-eH t):=by rw[kU]
  rw[hat];have hct:eH t=1+((t.x.size+t.w.s.size)/ 50:Nat):=rfl;obtain⟨q1,q2⟩:=hs.1;unfold kE at q1 q2;obtain⟨N,hN⟩:∃N,t.x.size+t.w.s.size=N:=⟨_,rfl⟩;rw[hN] at hct;have w1:IntKind.i64.wrap ((t.x.size:Int)+(t.w.s.size:Int))=(N:Int):=wrp;have w2:=dv N or;obtain⟨D2,hD2⟩:∃D2,N / 50=D2:=⟨_,rfl⟩;rw[hD2] at w2 hct;have w3:IntKind.i64.wrap (1+(D2:Int))=eH t:=wrp;have w4:IntKind.i64.wrap (l-eH t)=l-eH t:=wrp;refine aue (e10 Ex.cs.eq_1 Ex.op.eq_1 Ex.t.eq_1 Ex.o.eq_1 Ex.kids.eq_1 w1 w2 w3 w4 (@jK Ex V)) ?_
  refine aO (fun q:Nat×Int=>aD 35 0 [(1, .int .i64 q.2),(22, .sl (.agg 6) o (ks.map Ex.v)),(23, .int .i64 ks.length),(24, .int .i64 q.1)])
   (fun q hp nx1=>q.1≤ks.length∧nx≤nx1∧aS hp nx1∧Kf nx h' hp∧iG ks (l-eH t)=iG (ks.drop q.1) q.2∧q.2≤300∧(0≤q.2→q.2≤300-q.1)∧q.1≤301)
   (fun q=>ks.length-q.1) (0,l-eH t) ⟨Kq _,Zw,by exact dmo hd,by exact kep Hp.same.aAn,rfl,Zw,Zw,Zw⟩ (by simp only[WkL,aD,jH,jI,jJ,go_sem,reduceIte,jA,jB,jC,jD,reduceCtorEq,jE,jF]) ?_
  rintro⟨i,c⟩ hp nx1 ⟨hi,hnx,hdm,hsm,hTe,hb2,hb4,hb3⟩;generalize hQ:aV _ _ _ _ _=Q0;dsimp only at hi hTe hb2 hb3 hb4;refine Zk ?_;have hle:=hsm.le hd (Kb _);rcases Ks i ks.length with hlt|hge
  ·have hc:decide ((i:Int)<(ks.length:Int))=true:=dct;have hg:=aJ Ex.v ks i hlt;have hdr:ks.drop i=ks[i]::ks.drop (i+1):=Kx hlt;have hfl:=Ki ks[i];rw[hdr,AB] at hTe;by_cases aBq:c<0
   ·have g1:decide (c<0)=true:=dct;rw[if_pos aBq] at hTe;refine aue (e6 hc hg hlt g1 (@jK Ex V) (e2 hfl jG)) ?_;rw[←hQ];refine au ?_;refine aC h' (lef hd hle) ⟨?_,rfl⟩;rw[hTe];rfl
   have g1:decide (c<0)=false:=dcf;have hi3:=hb4 or;have hw:IntKind.i64.wrap ((i:Int)+1)=((i+1:Nat):Int):=wrp;rw[if_neg aBq] at hTe;obtain⟨hk1,hk2⟩:=hk _ (Ku hlt);have C1:=fun h=>yF n ks[i] hk1 hk2 c ⟨or,hb2⟩ h;have hbd:=rJ n ks[i] hk1 hk2 c;refine aue (e7 hc hg hlt g1 (@jK Ex V) (e2 hfl jG) hw) ?_;rw[←hQ];exact aF (i+1,kU ks[i] c) Zw ⟨hlt,or,dmo hdm,kep hsm,hTe,Zw,Zw,Zw⟩ (by simp only[WkL,aD,jH,jI,jJ,go_sem,reduceIte,jA,jB,jC,jD,reduceCtorEq,jE,jF])
  have hc:decide ((i:Int)<(ks.length:Int))=false:=dcf;refine aue hc ?_;rw[←hQ];refine au ?_;refine aC h' hle ⟨?_,rfl⟩;rw[hTe,KP hge];rw[Di];rfl
theorem Ah(r:Ru)(hr:r.s47)(h:Hp):aK Tryz.prog 8 [r.v, .int .i64 300] h (.int .i64 (tq r)):=by
 refine aH (fun L=>trivial) fun h' nx hh=>aB L.g2z fun hd=>?_;obtain⟨⟨hr',ho,hl⟩,g,c0,o,b,at_⟩:=r;refine ZK ?_;have C1:∀h:Hp,aK Tryz.prog 34 [.agg [.str hr', .sl (.agg 4) ho (hl.map Ka)], .int .i64 300] h (.int .i64 (fG ⟨hr',ho,hl⟩ 300)):=fun h=>gw ⟨hr',ho,hl⟩ hr.1 300 or h;have hab:=xD hr.1 300;have hat:tq ⟨⟨hr',ho,hl⟩,g,c0,o,b,at_⟩=qV b (fG ⟨hr',ho,hl⟩ 300):=rfl;rw[hat];dsimp only at hab;generalize fG ⟨hr',ho,hl⟩ 300=A at C1 hab;refine aue (e2 Ru.v.eq_1 (@jK Li V)) ?_;clear C1
 refine aO (fun q:Nat×Int=>aD 32 0 [(1, .int .i64 q.2),(12, .sl (.agg 17) o (b.map Li.v)),(13, .int .i64 b.length),(14, .int .i64 q.1)])
  (fun q hp nx1=>q.1≤b.length∧nx≤nx1∧aS hp nx1∧Kf nx h' hp∧qV b A=qV (b.drop q.1) q.2∧q.2≤300∧(0≤q.2→q.2≤300-q.1)∧q.1≤301)
  (fun q=>b.length-q.1) (0,A) ⟨Kq _,Zw,by exact dmo hd,by exact kep Hp.same.aAn,rfl,Zw,Zw,Zw⟩ (by simp only[WkL,aD,jH,jI,jJ,go_sem,reduceIte,jA,jB,jC,jD,reduceCtorEq,jE,jF]) ?_
 rintro⟨i,c⟩ hp nx1 ⟨hi,hnx,hdm,hsm,hTe,hb2,hb4,hb3⟩;generalize hQ:aV _ _ _ _ _=Q0;dsimp only at hi hTe hb2 hb3 hb4;refine Zk ?_;have hle:=hsm.le hd (Kb _);rcases Ks i b.length with hlt|hge
 ·have hc:decide ((i:Int)<(b.length:Int))=true:=dct;have hg:=aJ Li.v b i hlt;have hdr:b.drop i=b[i]::b.drop (i+1):=Kx hlt;have hs:=hr.2 _ (Ku hlt);rw[hdr,Ap] at hTe;by_cases aBq:c<0
  ·have g1:decide (c<0)=true:=dct;rw[if_pos aBq] at hTe;have hfl:=Li.aAA b[i];refine aue (e6 hc hg hlt g1 (@jK Li V) (e2 hfl jG)) ?_;rw[←hQ];refine au ?_;refine aC h' (lef hd hle) ⟨?_,rfl⟩;rw[hTe];rfl
  have g1:decide (c<0)=false:=dcf;have hi3:=hb4 or;have hw:IntKind.i64.wrap ((i:Int)+1)=((i+1:Nat):Int):=wrp;rw[if_neg aBq] at hTe;obtain⟨x1,y1⟩:=xD hs.1 c;obtain⟨x2,y2⟩:=rJ _ b[i].x (Kk _) hs.2.1 (fG b[i].a c);obtain⟨x3,y3⟩:=rJ _ b[i].y (Kk _) hs.2.2 (kU b[i].x (fG b[i].a c));have hA:-50000000000000≤fG b[i].a c∧fG b[i].a c≤300:=by split at x1<;>omega
  have hX:-100000000000000≤kU b[i].x (fG b[i].a c)∧kU b[i].x (fG b[i].a c)≤300:=by split at x2<;>omega
  have hv:=Li.aAV b[i];generalize b[i]=B at hs hv hg hTe x1 x2 x3 y1 y2 y3 hA hX;have D1:∀h:Hp,aK Tryz.prog 34 [.agg [.str B.a.r, .sl (.agg 4) B.a.o (B.a.l.map Ka)], .int .i64 c] h (.int .i64 (fG B.a c)):=fun h=>gw B.a hs.1 c or h;have D2:∀h:Hp,aK Tryz.prog 35 [.agg [.int .i64 B.x.op, .str B.x.t.x, .int .i64 B.x.t.w.k, .int .i64 B.x.t.w.n, .str B.x.t.w.s, .sl (.agg 6) B.x.o (B.x.kids.map Ex.v)], .int .i64 (fG B.a c)] h (.int .i64 (kU B.x (fG B.a c))):=fun h=>Kd B.x▸yF _ B.x (Kk _) hs.2.1 _ or h;have D3:∀h:Hp,aK Tryz.prog 35 [.agg [.int .i64 B.y.op, .str B.y.t.x, .int .i64 B.y.t.w.k, .int .i64 B.y.t.w.n, .str B.y.t.w.s, .sl (.agg 6) B.y.o (B.y.kids.map Ex.v)], .int .i64 (kU B.x (fG B.a c))] h (.int .i64 (kU B.y (kU B.x (fG B.a c)))):=fun h=>Kd B.y▸yF _ B.y (Kk _) hs.2.2 _ or h;refine aue (e8 hc hg hlt g1 (@jK Li V) hv jG hw) ?_;rw[←hQ];exact aF (i+1,yD B c) Zw ⟨hlt,or,dmo hdm,kep hsm,hTe,by dsimp only;unfold yD;omega,by dsimp only;unfold yD;omega,Zw⟩ (by simp only[WkL,aD,jH,jI,jJ,yD,go_sem,reduceIte,jA,jB,jC,jD,reduceCtorEq,jE,jF])
 have hc:decide ((i:Int)<(b.length:Int))=false:=dcf;refine aue hc ?_;rw[←hQ];refine au ?_;refine aC h' hle ⟨?_,rfl⟩;rw[hTe,KP hge];rfl
def Am.cp(a:Am):Am:=⟨a.r,frO a.l,a.l⟩
mutual
def Ex.cp:Ex→Ex
 | .mk op t _ ks=> .mk op t (frO ks) (Ex.cps ks)
def Ex.cps:List Ex→List Ex
 | []=>[]
 |e::r=>e.cp::Ex.cps r
end
theorem Ex.aA8:∀l:List Ex,Ex.cps l=l.map Ex.cp
 | []=>rfl
 |e::r=>by rw[Ex.cps,Ex.aA8 r];rfl
def Li.cp(l:Li):Li:=⟨l.k,l.a.cp,l.op,l.x.cp,l.y.cp,l.at_⟩
def Ru.cp(r:Ru):Ru:=⟨r.h.cp,r.g,r.c,frO r.b,r.b.map Li.cp,r.at_⟩
theorem oL{α:Type}(k:Sh)(l:List α)(vs:List V)(L:Nat→Prop)(h:bI L vs):(V.sl k (frO l) vs).names L:=by
 refine⟨?_,h⟩;intro n e;unfold frO at e;split at e<;>cases e
theorem qN{h:Hp}{n:Nat}{o:Own}{α:Type}{l:List α}{f:α→V}(a:Acc h n o (l.map f)):(o= .nil∧frO l= .nil)∨∃id,o= .tok id∧frO l= .free:=by
 rcases a with⟨e,rfl⟩|⟨e,id,_,rfl,_⟩
 ·have:l=[]:=by simpa using e
  subst this;exact .inl ⟨rfl,rfl⟩
 cases l with
 |nil=>exact absurd rfl e
 |cons a r=>exact .inr ⟨id,rfl,rfl⟩
theorem wJ(a:Am)(hl:a.l.length≤300)(h:Hp):aK Tryz.prog 51 [a.v] h a.cp.v:=by
 refine bK (fun L=>⟨trivial,oL _ _ _ _ (aT (fun x=>Km L x) _),trivial⟩) fun h' nx hh=>aB L.bDu fun hd=>?_;obtain⟨r,o,ts⟩:=a;dsimp only at hl;refine ZK ?_;refine aue (e3 Am.v.eq_1 trs.eq_1 (@jK Tr V)) ?_
 refine aO (fun i:Nat=>aD 24 0 [(2, .ptr (nx+1) (.agg 2) 0 0),(3, .ptr (nx+2) (.agg 2) 0 0),(10,trs o ts),(11, .int .i64 ts.length),(12, .int .i64 i)])
  (fun i hp nx1=>i≤ts.length∧nx+3≤nx1∧aS hp nx1∧Kf nx h' hp∧hp (nx+1)=some (.arr (.agg 2) [.agg [.str ⟨#[]⟩, .sl (.agg 4) .nil []]])∧∃o',hp (nx+2)=some (.arr (.agg 2) [.agg [.str r, .sl (.agg 4) o' ((ts.take i).map Ka)]])∧Acc hp (nx+3) o' ((ts.take i).map Ka))
  (fun i=>ts.length-i) 0 ⟨Kq _,Zw,by exact dmo hd,by exact kep Hp.same.aAn,by simp only[go_sem,reduceIte,jA,jB,jC,jD,reduceCtorEq,jE,jF], .nil,by simp only[KO,KG,go_sem,reduceIte,jA,jB,jC,jD,reduceCtorEq,jE,jF], .inl ⟨Zm,rfl⟩⟩ (by simp only[WkL,aD,jH,jI,jJ,trs,go_sem,reduceIte,jA,jB,jC,jD,reduceCtorEq,jE,jF]) ?_
 rintro i hp nx1 ⟨hi,hnx,hdm,hsm,hb1,o',hb2,aAM⟩;generalize hQ:aV _ _ _ _ _=Q0;refine Zk ?_;have hle:=hsm.le hd (Kb _);rcases Ks i ts.length with hlt|hge
 ·have hc:decide ((i:Int)<(ts.length:Int))=true:=dct;have hg:=aJ Ka ts i hlt;have hw:IntKind.i64.wrap ((i:Int)+1)=((i+1:Nat):Int):=wrp;have hcap:((ts.take i).map Ka).length≤1000000:=by simp;omega
  have aCM:(ts.take i).length≤1000000:=by simp;omega
  have n1:nx+1<nx1:=or;have n2:nx+2<nx1:=or;have aEI:∀H:Hp,H.aA7 o' (nx+1)=H (nx+1):=fun H=>gS fun id e=>by have:=aAM.ge id e;omega
  have aR1:∀H:Hp,H.aA7 o' (nx+2)=H (nx+2):=fun H=>gS fun id e=>by have:=aAM.ge id e;omega
  refine aue (e13 hc hg hlt hw hb1 hb2 hcap aCM n1 n2 (@jK Tr V) (e4 jG Ko aEI aR1) trs.eq_1) ?_;rw[←hQ];refine aF (i+1) or ⟨hlt,or,dmo hdm,rC hsm aAM,by simp only[aEI,hb1,n1,n2,go_sem,reduceIte,jA,jB,jC,jD,reduceCtorEq,jE,jF], .tok (nx1+3),?_,?_⟩ (by simp only[WkL,aD,jH,jI,jJ,trs,go_sem,reduceIte,jA,jB,jC,jD,reduceCtorEq,jE,jF])
  ·rw[Kg hlt,KB];simp only[KQ,KG,go_sem,reduceIte,jA,jB,jC,jD,reduceCtorEq,jE,jF]
  rw[Kg hlt,KB];exact Acc.set (Acc.new _ Zm or) (by simp only[aR1,hb2,n2,go_sem,reduceIte,jA,jB,jC,jD,reduceCtorEq,jE,jF]) _
 have hc:decide ((i:Int)<(ts.length:Int))=false:=dcf;have n1:nx+1<nx1:=or;refine aue (e4 hc hb1 hb2 n1) ?_;rw[←hQ];refine aue (e4 hc hb1 hb2 n1) ?_;have hil:i=ts.length:=or;rw[hil,Kt] at aAM hb2⊢;refine mP (by simp only[n1,go_sem,reduceIte,jA,jB,jC,jD,reduceCtorEq,jE,jF]) _ (Kb _) ⟨?_,lef hd hle⟩;simp only[n1,go_sem,reduceIte,jA,jB,jC,jD,reduceCtorEq,jE,jF];show _=V.agg [.str r, .sl (.agg 4) (frO ts) (ts.map Ka)];rcases qN aAM with⟨rfl,e⟩|⟨id,rfl,e⟩<;>rw[e]<;>rfl
end Go.Proofs.YtgbiopfghdilnaaGreatDoor
namespace Go.Proofs.YtgbiopfghdilnaaGreatDoor
open Go.RowKit Go.Sort
attribute [local irreducible] Kz
theorem Ex.aAd:∀(n:Nat) (e:Ex),SizeOf.sizeOf e≤n→∀L,e.cp.v.names L
 |0, .mk op t o ks,h,L=>by simp at h
 |n+1, .mk op t o ks,h,L=>by
  have hk:∀e∈ks,∀L,e.cp.v.names L:=fun e he=>by
   have:=KI he;simp only[Ex.mk.sizeOf_spec] at h;exact Ex.aAd n e or
  rw[Kd];refine⟨trivial,trivial,trivial,trivial,trivial,?_,trivial⟩;show(V.sl (.agg 6) (frO ks) ((Ex.cps ks).map Ex.v)).names L;refine oL _ _ _ _ ?_;rw[Ex.aA8,gL];intro v hv;simp only[KX,Qi,Qx] at hv;obtain⟨e,he,rfl⟩:=hv;exact hk e he L
theorem qX:∀(n:Nat) (e:Ex),SizeOf.sizeOf e≤n→e.few→∀(h:Hp),aK Tryz.prog 96 [e.v] h e.cp.v
 |0, .mk op t o ks,h,_,_=>by simp at h
 |n+1, .mk op t o ks,hz,hs,h=>by
  have hk:∀e∈ks,SizeOf.sizeOf e≤n∧e.few:=fun e he=>by
   refine⟨?_,Ex.aBp.1 hs.2 e he⟩;have:=KI he;simp only[Ex.mk.sizeOf_spec] at hz;omega
  refine bK (fun L=>Ex.aAd _ _ (Kk _) L) fun h' nx hh=>aB L.bCp fun hd=>?_;rw[Kd (.mk op t o ks)];refine ZK ?_;have bBz:ks.length≤300:=hs.1;refine aue (e6 Ex.cs.eq_1 Ex.op.eq_1 Ex.t.eq_1 Ex.o.eq_1 Ex.kids.eq_1 (@jK Ex V)) ?_
  refine aO (fun i:Nat=>aD 27 0 [(2, .ptr (nx+1) (.agg 6) 0 0),(3, .ptr (nx+2) (.agg 6) 0 0),(12, .sl (.agg 6) o (ks.map Ex.v)),(13, .int .i64 ks.length),(14, .int .i64 i)])
   (fun i hp nx1=>i≤ks.length∧nx+3≤nx1∧aS hp nx1∧Kf nx h' hp∧hp (nx+1)=some (.arr (.agg 6) [.agg [.int .i64 0, .str ⟨#[]⟩, .int .i64 0, .int .i64 0, .str ⟨#[]⟩, .sl (.agg 6) .nil []]])∧∃o',hp (nx+2)=some (.arr (.agg 6) [.agg [.int .i64 op, .str t.x, .int .i64 t.w.k, .int .i64 t.w.n, .str t.w.s, .sl (.agg 6) o' ((ks.take i).map fun e=>e.cp.v)]])∧Acc hp (nx+3) o' ((ks.take i).map fun e=>e.cp.v))
   (fun i=>ks.length-i) 0 ⟨Kq _,Zw,by exact dmo hd,by exact kep Hp.same.aAn,by simp only[go_sem,reduceIte,jA,jB,jC,jD,reduceCtorEq,jE,jF], .nil,by simp only[KO,KG,go_sem,reduceIte,jA,jB,jC,jD,reduceCtorEq,jE,jF], .inl ⟨Zm,rfl⟩⟩ (by simp only[WkL,aD,jH,jI,jJ,go_sem,reduceIte,jA,jB,jC,jD,reduceCtorEq,jE,jF]) ?_
  rintro i hp nx1 ⟨hi,hnx,hdm,hsm,hb1,o',hb2,aAM⟩;generalize hQ:aV _ _ _ _ _=Q0;refine Zk ?_;have hle:=hsm.le hd (Kb _);rcases Ks i ks.length with hlt|hge
  ·have hc:decide ((i:Int)<(ks.length:Int))=true:=dct;have hg:=aJ Ex.v ks i hlt;have hw:IntKind.i64.wrap ((i:Int)+1)=((i+1:Nat):Int):=wrp;have hcap:((ks.take i).map fun e=>e.cp.v).length≤1000000:=by simp;omega
   have aCM:(ks.take i).length≤1000000:=by simp;omega
   have n1:nx+1<nx1:=or;have n2:nx+2<nx1:=or;have aEI:∀H:Hp,H.aA7 o' (nx+1)=H (nx+1):=fun H=>gS fun id e=>by have:=aAM.ge id e;omega
   have aR1:∀H:Hp,H.aA7 o' (nx+2)=H (nx+2):=fun H=>gS fun id e=>by have:=aAM.ge id e;omega
   obtain⟨hk1,hk2⟩:=hk _ (Ku hlt);have D1:=fun h=>qX n ks[i] hk1 hk2 h;have hf1:=Ki ks[i];have hf2:=Ki ks[i].cp;have aHR:∀(H:Hp) (id:Nat),(∀m,m<nx1→m≠nx+2→o'≠ .tok m→H m=hp m)→H (nx+2)=some (.arr (.agg 6) [.agg [.int .i64 op, .str t.x, .int .i64 t.w.k, .int .i64 t.w.n, .str t.w.s, .sl (.agg 6) (.tok id) (((ks.take i).map fun e=>e.cp.v)++[ks[i].cp.v])]])→H id=some .tip→nx1≤id→∀nx2 sl,nx1≤nx2→aS H nx2→WkL sl (aD 27 0 [(2, .ptr (nx+1) (.agg 6) 0 0),(3, .ptr (nx+2) (.agg 6) 0 0),(12, .sl (.agg 6) o (ks.map Ex.v)),(13, .int .i64 ks.length),(14, .int .i64 ((i+1:Nat):Int))])→Q0 .normal ⟨sl,H,nx2⟩:=fun H id q1 q2 q3 q4 nx2 sl q5 q6 q7=>by
    rw[←hQ];refine aF (i+1) or ⟨hlt,or,q6,fun m hm=>?_,?_, .tok id,?_,?_⟩ q7
    ·rw[q1 m or or (fun e=>by have:=aAM.ge m e;omega)];exact hsm m hm
    ·rw[q1 _ or or (fun e=>by have:=aAM.ge _ e;omega)];exact hb1
    ·rw[Kg hlt,KB];exact q2
    rw[Kg hlt,KB];exact .inr ⟨Zm,id,or,rfl,q3⟩
   have aFc:=aAM;rcases aFc with⟨e,rfl⟩|⟨e,id,hge,rfl,ht⟩
   ·refine aue (e11 hc hg hlt hw hb2 hcap aCM n2 (@jK Ex V) (e2 jG hf1) hf2) ?_;refine aHR _ (nx1+7) (fun m q1 q2 _=>?_) (by simp only[go_sem,reduceIte,jA,jB,jC,jD,reduceCtorEq,jE,jF]) (by simp only[n2,go_sem,reduceIte,jA,jB,jC,jD,reduceCtorEq,jE,jF]) or _ _ or (dmo hdm) (by simp only[WkL,aD,jH,jI,jJ,go_sem,reduceIte,jA,jB,jC,jD,reduceCtorEq,jE,jF]);simp only[Kc];repeat rw[if_neg or]
   have hid:=hdm _ _ ht;have n3:nx+2<id:=or
   (repeat' (first|(with_reducible first|refine stp ?_|refine cG ZM ?_|refine pI (fun _=>?_) (fun _=>?_))|((first|(with_reducible refine lV ?_;first|refine jX rfl ?_ ?_|refine Zx ?_)|(with_reducible refine lZ ?_;first|refine kB rfl ?_ ?_|refine bM (D1 _) rfl (bD _) ?_|refine ZX ?_)|refine Zy ?_)<;>try simp only[hc,hg,hlt,hw,hb2,hcap,aCM,n2,jK,jG,hf1,hf2,ht,hid,n3,go_sem,reduceIte,jA,jB,jC,jD,reduceCtorEq,jE,jF])|refine ZY ?_|omega))
   ·exact⟨or,yR or (by simp only[ht,hid,go_sem,reduceIte,jA,jB,jC,jD,reduceCtorEq,jE,jF]) (by simp only[dD])⟩
   refine aHR _ (nx1+7) (fun m q1 q2 q3=>?_) (by simp only[go_sem,reduceIte,jA,jB,jC,jD,reduceCtorEq,jE,jF]) (by simp only[n2,go_sem,reduceIte,jA,jB,jC,jD,reduceCtorEq,jE,jF];rw[if_neg or]) or _ _ or (dmo hdm) (by simp only[WkL,aD,jH,jI,jJ,go_sem,reduceIte,jA,jB,jC,jD,reduceCtorEq,jE,jF]);have q4:m≠id:=fun e=>q3 (by rw[e]);simp only[Kc,Kh];repeat rw[if_neg or]
  have hc:decide ((i:Int)<(ks.length:Int))=false:=dcf;have n1:nx+1<nx1:=or;refine aue (e4 hc hb1 hb2 n1) ?_;rw[←hQ];refine aue (e4 hc hb1 hb2 n1) ?_;have hil:i=ks.length:=or;rw[hil,Kt] at aAM hb2⊢;refine mP (by simp only[n1,go_sem,reduceIte,jA,jB,jC,jD,reduceCtorEq,jE,jF]) _ (Kb _) ⟨?_,lef hd hle⟩;simp only[n1,go_sem,reduceIte,jA,jB,jC,jD,reduceCtorEq,jE,jF];have e0:(Ex.mk op t o ks).cp.v=V.agg [.int .i64 op, .str t.x, .int .i64 t.w.k, .int .i64 t.w.n, .str t.w.s, .sl (.agg 6) (frO ks) (ks.map fun e=>e.cp.v)]:=by
   rw[Kd];show V.agg [_,_,_,_,_, .sl (.agg 6) (frO ks) ((Ex.cps ks).map Ex.v)]=_;rw[Ex.aA8,KX];rfl
  rw[e0];rcases qN aAM with⟨rfl,e⟩|⟨id,rfl,e⟩<;>rw[e]<;>rfl
theorem Li.aAd(l:Li)(L:Nat→Prop):l.cp.v.names L:=by
 have h1:=Ex.aAd _ l.x (Kk _) L;have h2:=Ex.aAd _ l.y (Kk _) L;rw[Kd] at h1 h2;obtain⟨-,-,-,-,-,h1,-⟩:=h1;obtain⟨-,-,-,-,-,h2,-⟩:=h2;exact⟨trivial,trivial,oL _ _ _ _ (aT (fun x=>Km L x) _),trivial,trivial,trivial,trivial,trivial,trivial,h1,trivial,trivial,trivial,trivial,trivial,h2,trivial,trivial⟩
theorem u7(l:Li)(h1:l.a.l.length≤300)(h2:l.x.few)(h3:l.y.few)(h:Hp):aK Tryz.prog 52 [l.v] h l.cp.v:=by
 refine aH (fun L=>Li.aAd l L) fun h' nx hh=>aB L.bDt fun hd=>?_;have hv:=Li.aAV l;rw[hv];refine ZK ?_;have D1:∀h:Hp,aK Tryz.prog 51 [.agg [.str l.a.r, .sl (.agg 4) l.a.o (l.a.l.map Ka)]] h (.agg [.str l.a.r, .sl (.agg 4) (frO l.a.l) (l.a.l.map Ka)]):=fun h=>wJ l.a h1 h;have D2:∀h:Hp,aK Tryz.prog 96 [.agg [.int .i64 l.x.op, .str l.x.t.x, .int .i64 l.x.t.w.k, .int .i64 l.x.t.w.n, .str l.x.t.w.s, .sl (.agg 6) l.x.o (l.x.kids.map Ex.v)]] h (.agg l.x.cp.cs):=fun h=>Kd l.x▸Kd l.x.cp▸qX _ l.x (Kk _) h2 h;have D3:∀h:Hp,aK Tryz.prog 96 [.agg [.int .i64 l.y.op, .str l.y.t.x, .int .i64 l.y.t.w.k, .int .i64 l.y.t.w.n, .str l.y.t.w.s, .sl (.agg 6) l.y.o (l.y.kids.map Ex.v)]] h (.agg l.y.cp.cs):=fun h=>Kd l.y▸Kd l.y.cp▸qX _ l.y (Kk _) h3 h;refine aue Ex.cs.eq_1 ?_;refine mP (by simp only[go_sem,reduceIte,jA,jB,jC,jD,reduceCtorEq,jE,jF]) h' (leo hd) ⟨?_,rfl⟩;refine Zn ?_;rfl
theorem Ru.aAd(r:Ru)(L:Nat→Prop):r.cp.v.names L:=by
 refine⟨trivial,oL _ _ _ _ (aT (fun x=>Km L x) _),trivial,trivial,oL _ _ _ _ ?_,trivial,trivial⟩;rw[gL];intro v hv;simp only[Ru.cp,KX,Qi,Qx] at hv;obtain⟨e,he,rfl⟩:=hv;exact Li.aAd e L
theorem u0(r:Ru)(hr:r.few)(h:Hp):aK Tryz.prog 15 [r.v] h r.cp.v:=by
 refine bK (fun L=>Ru.aAd r L) fun h' nx hh=>aB L.g9z fun hd=>?_;obtain⟨⟨hr',ho,hl⟩,g,c0,o,b,at_⟩:=r;obtain⟨f1,f2,f3⟩:=hr;dsimp only at f1 f2 f3;rw[Ru.v.eq_1 ⟨⟨hr',ho,hl⟩,g,c0,o,b,at_⟩];refine ZK ?_;have D1:∀h:Hp,aK Tryz.prog 51 [.agg [.str hr', .sl (.agg 4) ho (hl.map Ka)]] h (.agg [.str hr', .sl (.agg 4) (frO hl) (hl.map Ka)]):=fun h=>wJ ⟨hr',ho,hl⟩ f1 h;refine aue (e2 trs.eq_1 (@jK Li V)) ?_;clear D1
 refine aO (fun i:Nat=>aD 32 0 [(2, .ptr (nx+1) (.agg 6) 0 0),(3, .ptr (nx+12) (.agg 6) 0 0),(17, .sl (.agg 17) o (b.map Li.v)),(18, .int .i64 b.length),(19, .int .i64 i)])
  (fun i hp nx1=>i≤b.length∧nx+14≤nx1∧aS hp nx1∧Kf nx h' hp∧hp (nx+1)=some (.arr (.agg 6) [.agg [.str ⟨#[]⟩, .sl (.agg 4) .nil [], .int .i64 0, .int .i64 0, .sl (.agg 17) .nil [], .int .i64 0]])∧∃o',hp (nx+12)=some (.arr (.agg 6) [.agg [.str hr', .sl (.agg 4) (frO hl) (hl.map Ka), .int .i64 g, .int .i64 c0, .sl (.agg 17) o' ((b.take i).map fun e=>e.cp.v), .int .i64 at_]])∧Acc hp (nx+13) o' ((b.take i).map fun e=>e.cp.v))
  (fun i=>b.length-i) 0 ⟨Kq _,Zw,by exact dmo hd,by exact kep Hp.same.aAn,by simp only[go_sem,reduceIte,jA,jB,jC,jD,reduceCtorEq,jE,jF], .nil,by simp only[KO,KG,go_sem,reduceIte,jA,jB,jC,jD,reduceCtorEq,jE,jF], .inl ⟨Zm,rfl⟩⟩ (by simp only[WkL,aD,jH,jI,jJ,go_sem,reduceIte,jA,jB,jC,jD,reduceCtorEq,jE,jF]) ?_
 rintro i hp nx1 ⟨hi,hnx,hdm,hsm,hb1,o',hb2,aAM⟩;generalize hQ:aV _ _ _ _ _=Q0;refine Zk ?_;have hle:=hsm.le hd (Kb _);rcases Ks i b.length with hlt|hge
 ·have hc:decide ((i:Int)<(b.length:Int))=true:=dct;have hg:=aJ Li.v b i hlt;have hw:IntKind.i64.wrap ((i:Int)+1)=((i+1:Nat):Int):=wrp;have hcap:((b.take i).map fun e=>e.cp.v).length≤1000000:=by simp;omega
  have aCM:(b.take i).length≤1000000:=by simp;omega
  have n1:nx+1<nx1:=or;have n2:nx+12<nx1:=or;obtain⟨q1,q2,q3⟩:=f3 _ (Ku hlt);have D1:=fun h=>u7 b[i] q1 q2 q3 h;have hf1:=Li.aAA b[i];have hf2:=Li.aAA b[i].cp;have aHR:∀(H:Hp) (id:Nat),(∀m,m<nx1→m≠nx+12→o'≠ .tok m→H m=hp m)→H (nx+12)=some (.arr (.agg 6) [.agg [.str hr', .sl (.agg 4) (frO hl) (hl.map Ka), .int .i64 g, .int .i64 c0, .sl (.agg 17) (.tok id) (((b.take i).map fun e=>e.cp.v)++[b[i].cp.v]), .int .i64 at_]])→H id=some .tip→nx1≤id→∀nx2 sl,nx1≤nx2→aS H nx2→WkL sl (aD 32 0 [(2, .ptr (nx+1) (.agg 6) 0 0),(3, .ptr (nx+12) (.agg 6) 0 0),(17, .sl (.agg 17) o (b.map Li.v)),(18, .int .i64 b.length),(19, .int .i64 ((i+1:Nat):Int))])→Q0 .normal ⟨sl,H,nx2⟩:=fun H id q1 q2 q3 q4 nx2 sl q5 q6 q7=>by
   rw[←hQ];refine aF (i+1) or ⟨hlt,or,q6,fun m hm=>?_,?_, .tok id,?_,?_⟩ q7
   ·rw[q1 m or or (fun e=>by have:=aAM.ge m e;omega)];exact hsm m hm
   ·rw[q1 _ or or (fun e=>by have:=aAM.ge _ e;omega)];exact hb1
   ·rw[Kg hlt,KB];exact q2
   rw[Kg hlt,KB];exact .inr ⟨Zm,id,or,rfl,q3⟩
  generalize b[i]=B at hg D1 hf1 hf2 aHR;have aFc:=aAM;rcases aFc with⟨e,rfl⟩|⟨e,id,hge,rfl,ht⟩
  ·refine aue (e11 hc hg hlt hw hb2 hcap aCM n2 (@jK Li V) (e2 jG hf1) hf2) ?_;refine aHR _ (nx1+7) (fun m q1 q2 _=>?_) (by simp only[go_sem,reduceIte,jA,jB,jC,jD,reduceCtorEq,jE,jF]) (by simp only[n2,go_sem,reduceIte,jA,jB,jC,jD,reduceCtorEq,jE,jF]) or _ _ or (dmo hdm) (by simp only[WkL,aD,jH,jI,jJ,go_sem,reduceIte,jA,jB,jC,jD,reduceCtorEq,jE,jF]);simp only[Kc];repeat rw[if_neg or]
  have hid:=hdm _ _ ht;have n3:nx+12<id∨id<nx+14:=or;have n4:nx+12≠id:=fun e=>by rw[e,ht] at hb2;cases hb2
  have n5:(nx+12=id)=False:=eq_false n4;have n6:(id=nx+12)=False:=eq_false (fun e=>n4 e.symm)
  (repeat' (first|(with_reducible first|refine stp ?_|refine cG ZM ?_|refine pI (fun _=>?_) (fun _=>?_))|((first|(with_reducible refine lV ?_;first|refine jX rfl ?_ ?_|refine Zx ?_)|(with_reducible refine lZ ?_;first|refine kB rfl ?_ ?_|refine bM (D1 _) rfl (bD _) ?_|refine ZX ?_)|refine Zy ?_)<;>try simp only[hc,hg,hlt,hw,hb2,hcap,aCM,n2,jK,jG,hf1,hf2,ht,hid,n5,n6,go_sem,reduceIte,jA,jB,jC,jD,reduceCtorEq,jE,jF])|refine ZY ?_|omega))
  ·exact⟨or,yR or (by simp only[ht,hid,go_sem,reduceIte,jA,jB,jC,jD,reduceCtorEq,jE,jF]) (by simp only[dD])⟩
  refine aHR _ (nx1+7) (fun m q1 q2 q3=>?_) (by simp only[go_sem,reduceIte,jA,jB,jC,jD,reduceCtorEq,jE,jF]) (by simp only[n2,go_sem,reduceIte,jA,jB,jC,jD,reduceCtorEq,jE,jF];rw[if_neg or]) or _ _ or (dmo hdm) (by simp only[WkL,aD,jH,jI,jJ,go_sem,reduceIte,jA,jB,jC,jD,reduceCtorEq,jE,jF]);have q4:m≠id:=fun e=>q3 (by rw[e]);simp only[Kc,Kh];repeat rw[if_neg or]
 have hc:decide ((i:Int)<(b.length:Int))=false:=dcf;have n1:nx+1<nx1:=or;refine aue (e4 hc hb1 hb2 n1) ?_;rw[←hQ];refine aue (e4 hc hb1 hb2 n1) ?_;have hil:i=b.length:=or;rw[hil,Kt] at aAM hb2⊢;refine mP (by simp only[n1,go_sem,reduceIte,jA,jB,jC,jD,reduceCtorEq,jE,jF]) _ (Kb _) ⟨?_,lef hd hle⟩;simp only[n1,go_sem,reduceIte,jA,jB,jC,jD,reduceCtorEq,jE,jF];have e0:(Ru.cp ⟨⟨hr',ho,hl⟩,g,c0,o,b,at_⟩).v=V.agg [.str hr', .sl (.agg 4) (frO hl) (hl.map Ka), .int .i64 g, .int .i64 c0, .sl (.agg 17) (frO b) (b.map fun e=>e.cp.v), .int .i64 at_]:=by
  show V.agg [_,_,_,_, .sl (.agg 17) (frO b) ((b.map Li.cp).map Li.v),_]=_;rw[KX];rfl
 rw[e0];cases hl with
 |nil=>rcases qN aAM with⟨rfl,e⟩|⟨id,rfl,e⟩<;>rw[e]<;>rfl
 |cons t r=>rcases qN aAM with⟨rfl,e⟩|⟨id,rfl,e⟩<;>rw[e]<;>rfl
end Go.Proofs.YtgbiopfghdilnaaGreatDoor
namespace Go.Proofs.YtgbiopfghdilnaaGreatDoor
open Go.RowKit Go.Sort
attribute [local irreducible] Kz
def lkB(x:ByteArray):List Tr→Option Vl
 | []=>none
 |t::r=>if t.x=x then some t.w else lkB x r
theorem By(x:ByteArray)(t:Tr):∀l:List Tr,lkB x (l++[t])=(match lkB x l with
 |some w=>some w
 |none=>if t.x=x then some t.w else none)
 | []=>by simp[lkB]
 |a::l=>by
  simp only[KR,lkB];split
  ·rfl
  exact By x t l
def aj(es:List ME)(l:List Tr):Prop:=∀x:ByteArray,match lkB x l with
 |none=>bX (.plain .leaf [.str]) (.str x) es=some none
 |some w=>∃j,bX (.plain .leaf [.str]) (.str x) es=some (some j)∧(es.getD j default).v=w.v∧j<es.length
theorem nj(e:nW)(k:V)(m:ME):∀es:List ME,bX e k (es++[m])=(match bX e k es with
 |some (some j)=>some (some j)
 |some none=>(match veq e k m.k with|some true=>some (some es.length)|some false=>some none|none=>none)
 |none=>none)
 | []=>by
  simp only[Qa,bX,KZ];cases veq e k m.k with
  |none=>rfl
  |some b=>cases b<;>rfl
 |a::es=>by
  simp only[KR,bX,KV];cases veq e k a.k with
  |none=>rfl
  |some b=>
   cases b with
   |true=>rfl
   |false=>
    simp only;rw[nj e k m es];cases bX e k es with
    |none=>rfl
    |some o=>
     cases o with
     |some j=>rfl
     |none=>
      simp only[Option.map_some,Option.map_none];cases veq e k m.k with
      |none=>rfl
      |some b=>cases b<;>rfl
theorem Bc(x y:ByteArray):veq (.plain .leaf [.str]) (.str x) (.str y)=some (decide (x=y)):=by
 have e:veq (.plain .leaf [.str]) (.str x) (.str y)=some (x.toList==y.toList):=rfl;rw[e,dN]
section
variable{P:Program}{Q:St→Prop}{s:St}{dst:Option Nat}{r:List aA}{x:aN}
theorem wE(h:bA P r Q ⟨bO s.sl dst (.map s.nx),s.h.set s.nx (.mp [] 0),s.nx+1⟩):bA P (⟨dst,none, .mp .mk⟩::r) Q s:=h
theorem oH{kS:Sh}{ks:List LK}{n c:Nat}{es:List ME}{k v:aN}(hk:(k.ev s.sl).fits kS=true)(hx:x.ev s.sl= .map n)(hn:s.h n=some (.mp es c))(hf:bX (.plain kS ks) (k.ev s.sl) es=some none)
 (h2:bA P r Q ⟨bO s.sl dst V.undef,s.h.set n (.mp (es++[⟨k.ev s.sl,v.ev s.sl,c⟩]) (c+1)),s.nx+1⟩):bA P (⟨dst,none, .mp (.put kS ks x k v)⟩::r) Q s:=by
 unfold bA;simp only[LOp.run,LOp.sem,MOp.sem,hx,hn,hf];exact⟨hk,h2⟩
end
end Go.Proofs.YtgbiopfghdilnaaGreatDoor
namespace Go.Proofs.YtgbiopfghdilnaaGreatDoor
open Go.RowKit Go.Sort
attribute [local irreducible] Kz
def gW(es:List ME)(l:List ByteArray):Prop:=∀x:ByteArray,match bX (.plain .leaf [.str]) (.str x) es with
 |some none=>x∉l
 |some (some j)=>j<es.length∧x∈l∧∃n:Int,(es.getD j default).v= .int .i64 n∧1≤n∧n≤l.length
 |none=>False
theorem mf:gW [] []:=fun x=>by simp[bX]
theorem fw(e:nW)(k:V):∀(a b:List ME),a.map ME.k=b.map ME.k→bX e k a=bX e k b
 | [],[],_=>rfl
 |x::a,y::b,h=>by
  simp only[KQ,List.cons.injEq] at h;simp only[bX,h.1,fw e k a b h.2]
theorem ni(e:nW)(k:V):∀(l:List ME) (j:Nat),bX e k l=some (some j)→veq e k (l.getD j default).k=some true
 | [],j,h=>by cases h
 |x::l,j,h=>by
  simp only[bX] at h;cases hv:veq e k x.k with
  |none=>rw[hv] at h;cases h
  |some b=>
   rw[hv] at h;cases b with
   |true=>cases h;exact hv
   |false=>
    simp only[Option.map_eq_some_iff] at h;obtain⟨o,h1,i,rfl,rfl⟩:=h;exact ni e k l i h1
theorem yg{x:ByteArray}{v:V}(h:veq (.plain .leaf [.str]) (.str x) v=some true):v= .str x:=by
 simp only[veq] at h;split at h
 ·rename_i hf;cases v<;>first|(simp[V.fits,V.aAE] at hf;done)|simp only[V.cells,gY,hZ,reduceCtorEq,Option.some.injEq] at h
  rename_i s;rw[dN] at h;rw[of_decide_eq_true h]
 cases h
theorem B1{es:List ME}{l:List ByteArray}{x:ByteArray}{b:Nat}(h:gW es l)(hx:bX (.plain .leaf [.str]) (.str x) es=some none):gW (es++[⟨.str x, .int .i64 1,b⟩]) (l++[x]):=fun y=>by
 have hy:=h y;rw[nj];cases hm:bX (.plain .leaf [.str]) (.str y) es with
 |none=>rw[hm] at hy;exact hy.elim
 |some o=>
  rw[hm] at hy;cases o with
  |some j=>
   obtain⟨h1,h2,n,h3,h4,h5⟩:=hy;refine⟨by simp;omega,by simp[h2],n,?_,h4,by simp;omega⟩;rw[←h3];simp only[Kw];rw[List.getElem?_append_left h1]
  |none=>
   simp only[Bc] at hy⊢;by_cases e:y=x
   ·rw[decide_eq_true e];exact⟨Zm,by simp[e],1,by simp[Kw],or,by simp;omega⟩
   rw[decide_eq_false e];simp[hy,e]
theorem B0{es:List ME}{l:List ByteArray}{x:ByteArray}{j:Nat}{n:Int}(h:gW es l)(hx:bX (.plain .leaf [.str]) (.str x) es=some (some j))(hn:(es.getD j default).v= .int .i64 n)(b:Nat):gW (es.set j ⟨.str x, .int .i64 (n+1),b⟩) (l++[x]):=fun y=>by
 have hk:=yg (ni _ _ _ _ hx);have hX:=h x;rw[hx] at hX;obtain⟨p1,p2,n',p3,p4,p5⟩:=hX;rw[hn] at p3;obtain rfl:n=n':=by injection p3
 have aRv:bX (.plain .leaf [.str]) (.str y) (es.set j ⟨.str x, .int .i64 (n+1),b⟩)=bX (.plain .leaf [.str]) (.str y) es:=by
  refine fw _ _ _ _ (List.ext_getElem Zm fun i h1 h2=>?_);simp only[List.getElem_map,List.getElem_set];split
  ·rename_i e;subst e;rw[Kw,KF p1] at hk;exact hk.symm
  rfl
 have hy:=h y;rw[aRv];cases hm:bX (.plain .leaf [.str]) (.str y) es with
 |none=>rw[hm] at hy;exact hy.elim
 |some o=>
  rw[hm] at hy;cases o with
  |none=>
   have:y≠x:=fun e=>hy (e▸p2);simp[hy,this]
  |some i=>
   obtain⟨h1,h2,m,h3,h4,h5⟩:=hy;refine⟨by simpa using h1,by simp[h2],?_⟩;by_cases e:j=i
   ·subst e;refine⟨n+1,?_,or,by simp;omega⟩;rw[Kw,List.getElem?_set_self p1];rfl
   refine⟨m,?_,h4,by simp;omega⟩;rw[←h3];simp only[Kw];rw[List.getElem?_set_ne e]
theorem rV{es:List ME}{l:List ByteArray}(h:gW es l)(x:ByteArray):∃r n,bX (.plain .leaf [.str]) (.str x) es=some r∧lO false (.int .i64 0) es r= .int .i64 n∧0≤n∧n≤l.length∧(n=0↔bP x l=false):=by
 have hx:=h x;cases hm:bX (.plain .leaf [.str]) (.str x) es with
 |none=>rw[hm] at hx;exact hx.elim
 |some o=>
  rw[hm] at hx;cases o with
  |none=>exact⟨none,0,rfl,rfl,or,or,by simp[jZ.2 hx]⟩
  |some j=>
   obtain⟨h1,h2,n,h3,h4,h5⟩:=hx;refine⟨some j,n,rfl,h3,or,h5,⟨fun e=>or,fun e=>absurd h2 (jZ.1 e)⟩⟩
section
variable{P:Program}{Q:St→Prop}{s:St}{dst:Option Nat}{r:List aA}{x:aN}
theorem CH{kS:Sh}{ks:List LK}{n c j:Nat}{es:List ME}{k v:aN}(hk:(k.ev s.sl).fits kS=true)(hx:x.ev s.sl= .map n)(hn:s.h n=some (.mp es c))(hf:bX (.plain kS ks) (k.ev s.sl) es=some (some j))
 (h2:bA P r Q ⟨bO s.sl dst V.undef,s.h.set n (.mp (es.set j ⟨k.ev s.sl,v.ev s.sl,(es.getD j default).b⟩) c),s.nx+1⟩):bA P (⟨dst,none, .mp (.put kS ks x k v)⟩::r) Q s:=by
 unfold bA;simp only[LOp.run,LOp.sem,MOp.sem,hx,hn,hf];exact⟨hk,h2⟩
end
theorem tO(o:Own)(vs:List ByteArray)(l:List ByteArray)(hl:l.length+vs.length≤1000000000)(n:Nat)(es:List ME)(c:Nat)(h:Hp)(nx:Nat)(hm:h n=some (.mp es c))(hs:gW es l):
 aY Tryz.prog 86 [.map n, .sl .leaf o (vs.map V.str)] h nx fun v h' nx'=>∃es' c',h' n=some (.mp es' c')∧gW es' (l++vs)∧∀m,m<nx→m≠n→h' m=h m:=by
 refine aB L.bC3 fun hd=>?_;refine ZK ?_;have hn2:n<nx:=hd _ _ hm;refine aue (@jK ByteArray V) ?_
 refine aO (fun i:Nat=>aD 17 0 [(0, .map n),(6, .sl .leaf o (vs.map V.str)),(7, .int .i64 vs.length),(8, .int .i64 i)])
  (fun i hp nx1=>i≤vs.length∧nx≤nx1∧(∃es c,hp n=some (.mp es c)∧gW es (l++vs.take i))∧∀m,m<nx→m≠n→hp m=h m)
  (fun i=>vs.length-i) 0 ⟨Kq _,Kk _,⟨es,c,hm,by simpa using hs⟩,fun _ _ _=>rfl⟩ (by simp only[WkL,aD,jH,jI,jJ,jK,go_sem,reduceIte,jA,jB,jC,jD,reduceCtorEq,jE,jF]) ?_
 rintro i hp nx1 ⟨hi,hnx,⟨es1,c1,hm1,hs1⟩,hsm⟩;generalize hQ:aV _ _ _ _ _=Q0;refine Zk ?_;rcases Ks i vs.length with hlt|hge
 ·have hc:decide ((i:Int)<(vs.length:Int))=true:=dct;have hg:=aJ V.str vs i hlt;have hw:IntKind.i64.wrap ((i:Int)+1)=((i+1:Nat):Int):=wrp;have htk:l++vs.take (i+1)=(l++vs.take i)++[vs[i]]:=by rw[Kg hlt,Qm]
  have hlen:(l++vs.take i).length≤l.length+i:=by rw[KC,List.length_take];omega
  have hn3:n<nx1:=or;generalize vs[i]=x at hg htk;have hx:=hs1 x;cases hf:bX (.plain .leaf [.str]) (.str x) es1 with
  |none=>rw[hf] at hx;exact hx.elim
  |some r=>
   cases r with
   |none=>
    have hg0:lO false (.int .i64 0) es1 none= .int .i64 0:=rfl;have hw1:IntKind.i64.wrap ((0:Int)+1)=1:=wrp;have hs2:=B1 (b:=c1) hs1 hf;refine aue (e9 hc hg hlt hm1 hf hg0 hw1 (@jK ByteArray V) jG) ?_;refine oH (es:=es1) (c:=c1) (n:=n) rfl rfl (by simp only[hm1,go_sem,reduceIte,jA,jB,jC,jD,reduceCtorEq,jE,jF]) hf ?_;refine Zn ?_;refine aue hw ?_;rw[←hQ];refine aF (i+1) or ⟨hlt,or,⟨_,_,by simp only[go_sem,reduceIte,jA,jB,jC,jD,reduceCtorEq,jE,jF];rfl,by rw[htk];exact hs2⟩,fun m h1 h2=>?_⟩ (by simp only[WkL,aD,jH,jI,jJ,go_sem,reduceIte,jA,jB,jC,jD,reduceCtorEq,jE,jF]);simp only[Kc];rw[if_neg h2];exact hsm m h1 h2
   |some j=>
    rw[hf] at hx;obtain⟨p1,p2,m,p3,p4,p5⟩:=hx;have hg0:lO false (.int .i64 0) es1 (some j)= .int .i64 m:=p3;have hw1:IntKind.i64.wrap (m+1)=m+1:=wrp;have hs2:=B0 hs1 hf p3 (es1.getD j default).b;refine aue (e9 hc hg hlt hm1 hf hg0 hw1 (@jK ByteArray V) jG) ?_;refine CH (es:=es1) (c:=c1) (n:=n) (j:=j) rfl rfl (by simp only[hm1,go_sem,reduceIte,jA,jB,jC,jD,reduceCtorEq,jE,jF]) hf ?_;refine Zn ?_;refine aue hw ?_;rw[←hQ];refine aF (i+1) or ⟨hlt,or,⟨_,_,by simp only[go_sem,reduceIte,jA,jB,jC,jD,reduceCtorEq,jE,jF];rfl,by rw[htk];exact hs2⟩,fun m h1 h2=>?_⟩ (by simp only[WkL,aD,jH,jI,jJ,go_sem,reduceIte,jA,jB,jC,jD,reduceCtorEq,jE,jF]);simp only[Kc];rw[if_neg h2];exact hsm m h1 h2
 have hc:decide ((i:Int)<(vs.length:Int))=false:=dcf;refine aue hc ?_;rw[←hQ];refine au ?_;rw[Ky or] at hs1;exact⟨hp,Kb _,es1,c1,hm1,hs1,hsm⟩
def iR(l vs:List ByteArray):Bool:=vs.all fun v=>bP v l
theorem bx:aE Tryz.prog 173=some (LB.aAi .leaf):=Zz
theorem FX:aE Tryz.prog 192=some (LB.ContainsFunc .leaf 173):=Zz
theorem zc(l:List ByteArray)(hl:l.length≤1000000000)(n:Nat)(es:List ME)(c:Nat)(h:Hp)(hm:h n=some (.mp es c))(hs:gW es l)(p:Nat)(hp:h p=some (.arr .leaf [.map n]))(x:ByteArray):aK Tryz.prog 193 [.str x, .ptr p .leaf 0 0] h (.bool (!bP x l)):=by
 refine aH (fun L=>trivial) fun h' nx hh=>aB L.aZD fun hd=>?_;refine ZK ?_;have hm1:=hh _ _ hm rfl;have hp1:=hh _ _ hp rfl;have n1:n<nx:=hd _ _ hm1;have n2:p<nx:=hd _ _ hp1;obtain⟨r,m,q1,q2,q3,q4,q5⟩:=rV hs x;have hb:(m==0)= !bP x l:=by
  cases k:bP x l with
  |true=>exact bqf (fun e=>by rw[q5.1 e] at k;cases k)
  |false=>exact bqt (q5.2 k)
 refine aue (e6 hm1 hp1 q1 q2 hb n1) ?_;exact aC h' (leo hd) ⟨rfl,rfl⟩
theorem xP(l:List ByteArray)(hl:l.length≤1000000000)(n:Nat)(es:List ME)(c:Nat)(h:Hp)(hm:h n=some (.mp es c))(hs:gW es l)(o:Own)(vs:List ByteArray)(hv:vs.length≤1000000000):aK Tryz.prog 175 [.map n, .sl .leaf o (vs.map V.str)] h (.bool (iR l vs)):=by
 refine aH (fun L=>trivial) fun h' nx hh=>aB L.aZV fun hd=>?_;refine ZK ?_;have hm1:=hh _ _ hm rfl;have n1:n<nx:=hd _ _ hm1;refine aue trivial ?_;refine aI (kW V.str (fun _=>rfl) FX bx (fun x=> !bP x l) o vs _ _ (h'.set nx (.arr .leaf [.map n])) (fun x _=>zc l hl n es c _ (by simp only[Kc];rw[if_neg or];exact hm1) hs nx (by simp[Kc]) x) hv) rfl (aL _) ?_;refine Zn ?_;refine au ?_;exact aC h' (leo hd) ⟨by unfold iR;rw[←rq];rfl,rfl⟩
def cA(e:Ex):ByteArray:=if e.op≠0∨e.kids≠ [] then ⟨#[]⟩ else e.t.x
theorem jo(e:Ex)(h:Hp):aK Tryz.prog 174 [e.v] h (.str (cA e)):=by
 refine aH (fun L=>trivial) fun h' nx hh=>aB L.aZW fun hd=>?_;obtain⟨op,t,o,ks⟩:=e;rw[Kd];refine ZK ?_;unfold cA;by_cases h1:op=0
 ·have g1:(op != 0)=false:=bnf;cases ks with
  |nil=>
   have hk:decide ((0:Int)<((0:Nat):Int))=false:=rfl;have hk':decide (((0:Nat):Int)>0)=false:=rfl;refine aue (e8 Ex.cs.eq_1 Ex.op.eq_1 Ex.t.eq_1 Ex.o.eq_1 Ex.kids.eq_1 g1 hk hk') ?_;refine aC h' (leo hd) ⟨?_,rfl⟩;rw[if_neg (by simp[h1,Kp,Kj])];rfl
  |cons a r=>
   obtain⟨ks,hks⟩:∃ks,ks=a::r:=⟨_,rfl⟩;have hk:decide ((0:Int)<(ks.length:Int))=true:=dct (by rw[hks];simp);rw[←hks];refine aue (e8 Ex.cs.eq_1 Ex.op.eq_1 Ex.t.eq_1 Ex.o.eq_1 Ex.kids.eq_1 g1 hk (@jK Ex V)) ?_;refine aC h' (leo hd) ⟨?_,rfl⟩;rw[if_pos (.inr (by rw[hks];simp[Kj]))];rfl
 have g1:(op != 0)=true:=bnt;refine aue (e6 Ex.cs.eq_1 Ex.op.eq_1 Ex.t.eq_1 Ex.o.eq_1 Ex.kids.eq_1 g1) ?_;refine aC h' (leo hd) ⟨?_,rfl⟩;rw[if_pos (.inl h1)];rfl
def cU(s:List ByteArray)(l:Li):Bool:=decide (l.k=3∧l.op=1)&&
 ((decide ((cA l.x).size≠0)&& !bP (cA l.x) s&&iR s (nmL [] l.y.ts))||(decide ((cA l.y).size≠0)&& !bP (cA l.y) s&&iR s (nmL [] l.x.ts)))
theorem dk(s:List ByteArray)(hl:s.length≤1000000000)(n:Nat)(es:List ME)(c:Nat)(h:Hp)(hm:h n=some (.mp es c))(hs:gW es s)(l:Li)(hr:bG l=true):aK Tryz.prog 131 [.map n,l.v] h (.bool (cU s l)):=by
 refine aH (fun L=>trivial) fun h' nx hh=>aB L.bAN fun hd=>?_;rw[Li.aAV];refine ZK ?_;have hm1:=hh _ _ hm rfl;have n1:n<nx:=hd _ _ hm1;obtain⟨b1,b2,b3⟩:=iL hr;have b4:=gT b2;have b5:=gT b3;have b6:=jU l.x.ts [];have b7:=jU l.y.ts [];simp only[jM] at b6 b7;have D1:∀h:Hp,aK Tryz.prog 174 [.agg [.int .i64 l.x.op, .str l.x.t.x, .int .i64 l.x.t.w.k, .int .i64 l.x.t.w.n, .str l.x.t.w.s, .sl (.agg 6) l.x.o (l.x.kids.map Ex.v)]] h (.str (cA l.x)):=fun h=>(show V.agg l.x.cs=_ from rfl)▸Kd l.x▸jo l.x h;have D2:∀h:Hp,aK Tryz.prog 174 [.agg [.int .i64 l.y.op, .str l.y.t.x, .int .i64 l.y.t.w.k, .int .i64 l.y.t.w.n, .str l.y.t.w.s, .sl (.agg 6) l.y.o (l.y.kids.map Ex.v)]] h (.str (cA l.y)):=fun h=>(show V.agg l.y.cs=_ from rfl)▸Kd l.y▸jo l.y h;obtain⟨o1,ho1⟩:=bQ .leaf ((nmL [] l.x.ts).map V.str);obtain⟨o2,ho2⟩:=bQ .leaf ((nmL [] l.y.ts).map V.str);have C1:∀h:Hp,aK Tryz.prog 176 [.agg [.int .i64 l.x.op, .str l.x.t.x, .int .i64 l.x.t.w.k, .int .i64 l.x.t.w.n, .str l.x.t.w.s, .sl (.agg 6) l.x.o (l.x.kids.map Ex.v)]] h (.sl .leaf o1 ((nmL [] l.x.ts).map V.str)):=fun h=>(show V.agg l.x.cs=_ from rfl)▸Kd l.x▸ho1▸BP l.x b2 h;have C2:∀h:Hp,aK Tryz.prog 176 [.agg [.int .i64 l.y.op, .str l.y.t.x, .int .i64 l.y.t.w.k, .int .i64 l.y.t.w.n, .str l.y.t.w.s, .sl (.agg 6) l.y.o (l.y.kids.map Ex.v)]] h (.sl .leaf o2 ((nmL [] l.y.ts).map V.str)):=fun h=>(show V.agg l.y.cs=_ from rfl)▸Kd l.y▸ho2▸BP l.y b3 h;have z1:=vI (cA l.x);have z2:=vI (cA l.y);obtain⟨r1,m1,p1,p2,p3,p4,p5⟩:=rV hs (cA l.x);obtain⟨r2,m2,q1,q2,q3,q4,q5⟩:=rV hs (cA l.y);have e1:(m1==0)= !bP (cA l.x) s:=by
  cases k:bP (cA l.x) s with
  |true=>exact bqf (fun e=>by rw[p5.1 e] at k;cases k)
  |false=>exact bqt (p5.2 k)
 have e2':(m2==0)= !bP (cA l.y) s:=by
  cases k:bP (cA l.y) s with
  |true=>exact bqf (fun e=>by rw[q5.1 e] at k;cases k)
  |false=>exact bqt (q5.2 k)
 unfold cU;generalize cA l.x=A at*;generalize cA l.y=B at*;have C5:aK Tryz.prog 175 [.map n, .sl .leaf o2 ((nmL [] l.y.ts).map V.str)] h' (.bool (iR s (nmL [] l.y.ts))):=xP s hl n es c h' hm1 hs o2 _ or;have C6:aK Tryz.prog 175 [.map n, .sl .leaf o1 ((nmL [] l.x.ts).map V.str)] h' (.bool (iR s (nmL [] l.x.ts))):=xP s hl n es c h' hm1 hs o1 _ or;have hle:=yG (leo hd:h'.le (h'.set nx (Blk.arr (Sh.agg 17) [.agg [.int .i64 l.k, .str l.a.r,trs l.a.o l.a.l, .int .i64 l.op, .int .i64 l.x.op, .str l.x.t.x, .int .i64 l.x.t.w.k, .int .i64 l.x.t.w.n, .str l.x.t.w.s, .sl (.agg 6) l.x.o (l.x.kids.map Ex.v), .int .i64 l.y.op, .str l.y.t.x, .int .i64 l.y.t.w.k, .int .i64 l.y.t.w.n, .str l.y.t.w.s, .sl (.agg 6) l.y.o (l.y.kids.map Ex.v), .int .i64 l.at_]])))
 replace C5:=C5.mono hle
 replace C6:=C6.mono hle
 (repeat' (first|(with_reducible first|refine stp ?_|refine cG ZM ?_|refine pI (fun _=>?_) (fun _=>?_))|((first|(with_reducible refine lV ?_;first|refine jX rfl ?_ ?_|refine aI (C1 _) rfl (aL _) ?_|refine aI (C2 _) rfl (aL _) ?_|refine aI C5 rfl (aL _) ?_|refine aI C6 rfl (aL _) ?_|refine Zx ?_)|(with_reducible refine lZ ?_;first|refine kB rfl ?_ ?_|refine bM (D1 _) rfl (bD _) ?_|refine bM (D2 _) rfl (bD _) ?_|refine ZX ?_)|refine Zy ?_)<;>try simp only[hm1,n1,z1,z2,p1,p2,q1,q2,e1,e2',go_sem,reduceIte,jA,jB,jC,jD,reduceCtorEq,jE,jF])|refine ZY ?_|omega))
 all_goals refine aC h' (leo hd) ⟨vb ?_,rfl⟩
 all_goals simp_all
theorem j3(p:ByteArray→Bool)(n:Nat)(l:List ByteArray)(g:Nat)(caps:List V)(h hc:Hp)(nx:Nat)(hn:h n=some (.arr .leaf (l.map V.str)))
 (hcn:hc n=none) (hch:Kv hc h) (hcd:aS hc nx) (hp:∀x∈l,aK Tryz.prog g ([V.str x]++caps) hc (.bool (p x))) (hl:l.length≤1000000000):
 aY Tryz.prog 129 [.rs n .leaf 0 l.length, .fn (.func g) [] caps] h nx fun v h' nx'=>∃zs,v= .rs n .leaf 0 (l.filter fun x=> !(p x)).length∧h'=h.set n (.arr .leaf ((l.filter fun x=> !(p x)).map V.str++zs)):=by
 have aRj:h.set n (.arr .leaf (l.map V.str))=h:=by
  funext x;unfold Kc;split
  ·rename_i hx;rw[hx,hn]
  rfl
 refine aB L.aQU fun hd=>?_;have bFd:n<nx:=hd n _ hn;obtain⟨k1,k2⟩:=wh p l;refine ZK ?_;cases aBq:(bH p l==-1) with
 |true=>
  have aAy:=k1.1 aBq
  (repeat' (first|(with_reducible first|refine stp ?_|refine cG ZM ?_|refine pI (fun _=>?_) (fun _=>?_))|((first|(with_reducible refine lV ?_;first|refine jX rfl ?_ ?_|refine aI (wN V.str (fun _=>rfl) bx p n l g caps h hn (fun x hx=>(hp x hx).mono hch) or) (by simp only[go_sem,reduceIte,jA,jB,jC,jD,reduceCtorEq,jE,jF]) (aL _) ?_|refine Zx ?_)|(with_reducible refine lZ ?_;first|refine kB rfl ?_ ?_|refine ZX ?_)|refine Zy ?_)<;>try simp only[aBq,go_sem,reduceIte,jA,jB,jC,jD,reduceCtorEq,jE,jF])|refine ZY ?_|omega))
  have hfl:(l.filter fun x=> !(p x))=l:=Qh.2 (fun x hx=>by simp[aAy x hx]);refine aC h (Kb _) ⟨[],?_,?_⟩
  ·simp only[hfl,go_sem,reduceIte,jA,jB,jC,jD,reduceCtorEq,jE,jF]
  rw[hfl,Qb,aRj]
 |false=>
  obtain⟨i0,hi0⟩:∃i:Nat,bH p l=i:=by
   cases hf:l.findIdx? p with
   |none=>exact absurd (k1.2 (by simpa using KE.1 hf)) (by rw[aBq];simp)
   |some j=>exact⟨j,by unfold bH;rw[hf]⟩
  obtain⟨b1,b2,b3⟩:=k2 i0 hi0;have hw0:IntKind.i64.wrap ((i0:Int)+1)=((i0+1:Nat):Int):=by rw[gA]<;>omega
  rw[hi0] at aBq
  (repeat' (first|(with_reducible first|refine stp ?_|refine cG ZM ?_|refine pI (fun _=>?_) (fun _=>?_))|((first|(with_reducible refine lV ?_;first|refine jX rfl ?_ ?_|refine aI (wN V.str (fun _=>rfl) bx p n l g caps h hn (fun x hx=>(hp x hx).mono hch) or) (by simp only[go_sem,reduceIte,jA,jB,jC,jD,reduceCtorEq,jE,jF]) (aL _) ?_|refine Zx ?_)|(with_reducible refine lZ ?_;first|refine kB rfl ?_ ?_|refine ZX ?_)|refine Zy ?_)<;>try simp only[aBq,hi0,hw0,go_sem,reduceIte,jA,jB,jC,jD,reduceCtorEq,jE,jF])|refine ZY ?_|omega))
  refine aO (fun q:Nat×Nat×List ByteArray=>aD 42 0 [(0, .rs n .leaf 0 l.length),(1, .fn (.func g) [] caps),(5, .int .i64 q.1),(6, .int .i64 q.2.1)])
   (fun q hp2 nx1=>q.1+1≤q.2.1∧q.2.1≤l.length∧q.2.2.length=l.length∧q.2.2.take q.1=(l.take q.2.1).filter (fun x=> !(p x))∧q.2.2.drop q.1=l.drop q.1∧hp2 n=some (.arr .leaf (q.2.2.map V.str))∧nx≤nx1∧∀x,x≠n→x<nx→hp2 x=h x)
   (fun q=>l.length-q.2.1) (i0,i0+1,l) ⟨Kk _,b1,rfl,?_,rfl,hn,Kk _,fun _ _ _=>rfl⟩ ?_ ?_
  ·dsimp only;rw[Kg b1,KS,Qh.2 (fun x hx=>by simp[b3 x hx])];simp[b2]
  ·simp only[WkL,aD,jH,jI,jJ,go_sem,reduceIte,jA,jB,jC,jD,reduceCtorEq,jE,jF]
  rintro⟨i,j,xs⟩ hp2 nx1 ⟨a1,a2,a3,a4,a5,a6,a7,a8⟩;generalize hQ:aV _ _ _ _ _=Q0;dsimp only at a1 a2 a3 a4 a5 a6;refine Zk ?_;have aRx:Kv hc hp2:=fun m kk hm hbm=>by
   have hmn:m≠n:=fun e2=>by rw[e2,hcn] at hm;cases hm
   rw[a8 m hmn (hcd m _ hm)];exact hch m kk hm hbm
  have hcf:∀m,nx≤m→hc m=none:=fun m hm=>aS.none hcd hm;rcases Ks j l.length with hlt|hge
  ·have hcc:decide ((j:Int)<(l.length:Int))=true:=decide_eq_true or;have hxj:xs[j]'or=l[j]:=by
    have e1:xs[j]'or=(xs.drop i)[j-i]'(by simp;omega):=by simp[show i+(j-i)=j by omega]
    have e2:l[j]=(l.drop i)[j-i]'(by simp;omega):=by simp[show i+(j-i)=j by omega]
    rw[e1,e2];congr 1
   have hg:(xs.map V.str).getD j (.tup [])=V.str l[j]:=by rw[aJ V.str xs j or,hxj]
   have hw:IntKind.i64.wrap ((j:Int)+1)=((j+1:Nat):Int):=by rw[gA]<;>omega
   have hw2:IntKind.i64.wrap ((i:Int)+1)=((i+1:Nat):Int):=by rw[gA]<;>omega
   have hnl:n<nx1:=or;have hil:i<l.length:=or;have htk:l.take (j+1)=l.take j++[l[j]]:=Kg hlt
   (repeat' (first|(with_reducible first|refine stp ?_|refine cG ZM ?_|refine pI (fun _=>?_) (fun _=>?_))|((first|(with_reducible refine lV ?_;first|refine jX rfl ?_ ?_|refine iO rfl (hp l[j] (Ku _)) (by simp only[go_sem,reduceIte,jA,jB,jC,jD,reduceCtorEq,jE,jF]) (by repeat (first|exact aRx|refine EP ?_ (by first|exact hcn|exact hcf _ or) _)) ?_|refine Zx ?_)|(with_reducible refine lZ ?_;first|refine kB rfl ?_ ?_|refine ZX ?_)|refine Zy ?_)<;>try simp only[hcc,hg,hw,hw2,hnl,hil,hlt,a6,a3,jK,jG,go_sem,reduceIte,jA,jB,jC,jD,reduceCtorEq,jE,jF])|refine ZY ?_|omega))
   ·rename_i hx;have hx:p l[j]=false:=by simpa using hx
    rw[←hQ];refine aF (i+1,j+1,xs.set i l[j]) Zw ⟨Zw,Zw,by simpa using a3,?_,?_,?_,or,fun x hxn hxl=>?_⟩ ?_
    ·dsimp only;rw[htk,KS,←a4,Kg (by simp;omega),List.getElem_set_self,List.take_set_of_le (Kk _)];simp[hx]
    ·dsimp only;rw[List.drop_set_of_lt or];have:=congrArg (QA 1) a5;rwa [Qq,Qq] at this
    ·simp only[hnl,go_sem,reduceIte,jA,jB,jC,jD,reduceCtorEq,jE,jF];rw[List.map_set,aJ V.str xs i or];rfl
    ·have h1:(x=nx1)=False:=eq_false or;simp only[hxn,h1,go_sem,reduceIte,jA,jB,jC,jD,reduceCtorEq,jE,jF];exact a8 x hxn hxl
    simp only[WkL,aD,jH,jI,jJ,go_sem,reduceIte,jA,jB,jC,jD,reduceCtorEq,jE,jF]
   rename_i hx;have hx:p l[j]=true:=by simpa using hx
   rw[←hQ];refine aF (i,j+1,xs) Zw ⟨Zw,Zw,a3,?_,a5,?_,or,fun x hxn hxl=>?_⟩ ?_
   ·dsimp only;rw[htk,KS,←a4];simp[hx]
   ·exact a6
   ·exact a8 x hxn hxl
   simp only[WkL,aD,jH,jI,jJ,go_sem,reduceIte,jA,jB,jC,jD,reduceCtorEq,jE,jF]
  have hcc:decide ((j:Int)<(l.length:Int))=false:=decide_eq_false or;rw[show j=l.length by omega,Kt] at a4;have hil:i<l.length:=or;have bB2:(i=l.length)=False:=eq_false or;refine aue hcc ?_;rw[←hQ];refine aue (ee4 bB2 hil a6 a3) ?_;have hlen:(l.filter fun x=> !(p x)).length=i:=by rw[←a4];simp;omega
  refine aC (h.set n (.arr .leaf ((l.filter fun x=> !(p x)).map V.str++(Qp (l.length-i) (.str ⟨#[]⟩)++(xs.map V.str).drop (i+(l.length-i)))))) ?_ ⟨_,?_,rfl⟩
  ·intro x b hxb;by_cases hxn:x=n
   ·subst hxn;simp only[go_sem,reduceIte,jA,jB,jC,jD,reduceCtorEq,jE,jF] at hxb⊢;rw[←hxb,←a4,List.map_take,Qm]
   have hxl:x<nx:=hd x b (by simpa only[Kc,if_neg hxn] using hxb);simp only[hxn,go_sem,reduceIte,jA,jB,jC,jD,reduceCtorEq,jE,jF] at hxb⊢;rw[a8 x hxn hxl];exact hxb
  simp only[hlen,Ql,go_sem,reduceIte,jA,jB,jC,jD,reduceCtorEq,jE,jF]
theorem w7(p:ByteArray→Bool)(g:Nat)(caps:List V)(h:Hp):
 aK Tryz.prog 129 [.sl .leaf .nil [], .fn (.func g) [] caps] h (.sl .leaf .nil []):=by
 refine aH (fun L=>by simp[V.names,bI]) fun h' nx hh=>aB L.aQU fun hd=>?_;have aBq:(bH p ([]:List ByteArray)==-1)=true:=by simp[bH]
 have hi:aK Tryz.prog 173 [.sl .leaf .nil [], .fn (.func g) [] caps] h' (.int .i64 (bH p ([]:List ByteArray))):=by
  have:=nS V.str (fun _=>rfl) bx p .nil [] g caps h' (fun x hx=>by cases hx) Zm;simpa using this
 refine ZK ?_;have C5:=hi;refine aue aBq ?_;exact aC h' (Kb _) ⟨rfl,rfl⟩
theorem tf(s:List ByteArray)(n:Nat)(es:List ME)(c:Nat)(h:Hp)(hm:h n=some (.mp es c))(hs:gW es s)(b:Bool)(p q:Nat)(hp:h p=some (.arr .leaf [.map n]))(hq:h q=some (.arr .leaf [.bool b]))(x:ByteArray):aK Tryz.prog 130 [.str x, .ptr p .leaf 0 0, .ptr q .leaf 0 0] h (.bool (!(bP x s==b))):=by
 refine aH (fun L=>trivial) fun h' nx hh=>aB L.bAO fun hd=>?_;refine ZK ?_;have hm1:=hh _ _ hm rfl;have hp1:=hh _ _ hp rfl;have hq1:=hh _ _ hq rfl;have n1:n<nx:=hd _ _ hm1;have n2:p<nx:=hd _ _ hp1;have n3:q<nx:=hd _ _ hq1;obtain⟨r,m,q1,q2,q3,q4,q5⟩:=rV hs x;have hb:decide (0<m)=bP x s:=by
  cases k:bP x s with
  |true=>exact dct (by have:m≠0:=fun e=>(by rw[q5.1 e] at k;cases k);omega)
  |false=>exact dcf (by have:=q5.2 k;omega)
 have hv:veq (.plain .leaf [.bool]) (.bool (bP x s)) (.bool b)=some (bP x s==b):=rfl;refine aue (e7 hm1 hp1 hq1 q1 q2 hb hv) ?_;exact aC h' (leo hd) ⟨rfl,rfl⟩
def cL(r:Ru)(s:List ByteArray)(b:Bool):List ByteArray:=r.vars.filter fun v=>bP v s==b
theorem dr(r:Ru)(hr:bT r=true)(s:List ByteArray)(n:Nat)(es:List ME)(c:Nat)(h:Hp)(hm:h n=some (.mp es c))(hs:gW es s)(b:Bool):aK Tryz.prog 80 [r.v, .map n, .bool b] h (.sl .leaf (frO r.vars) ((cL r s b).map V.str)):=by
 have hnm:∀L,(V.sl .leaf (frO r.vars) ((cL r s b).map V.str)).names L:=fun L=>⟨fun m e=>(by unfold frO at e;split at e<;>cases e),aT (f:=V.str) (fun _=>trivial) _⟩;refine bK hnm fun h' nx hh=>aB L.bDI fun hd=>?_;have hm1:=hh _ _ hm rfl;have n1:n<nx:=hd _ _ hm1;have hvl:r.vars.length≤16777270:=by have:=db hr r.b.length;rwa [Kt] at this
 refine ZK ?_;obtain⟨X,hX⟩:∃X,r.v=X:=⟨_,rfl⟩;have hf:X.fits (.agg 6)=true:=by rw[←hX];rfl
 have hV:=fun h nx=>A3 r hr h nx;rw[hX] at hV⊢;refine bZ ?_;generalize hR1:kH _ _=R1;refine aue (e2 hf n1) ?_;rw[←hR1];clear hR1;refine aZ (bZ ?_);generalize hRC:kH _ _=RC;refine aue (e2 hf n1) ?_;refine bF ((hV _ (nx+3)).dom.mono ?_);rintro v h1 nx1 aAx ⟨⟨aBF,hsm⟩,hd1,_⟩;unfold cY;refine Zn ?_;have hb0:h1 nx=some (.arr (.agg 6) [X]):=by rw[hsm nx or];simp only[go_sem,reduceIte,jA,jB,jC,jD,reduceCtorEq,jE,jF]
 have hb1:h1 (nx+1)=some (.arr .leaf [.map n]):=by rw[hsm (nx+1) or];simp only[go_sem,reduceIte,jA,jB,jC,jD,reduceCtorEq,jE,jF]
 have hb2:h1 (nx+2)=some (.arr .leaf [.bool b]):=by rw[hsm (nx+2) or];simp only[go_sem,reduceIte,jA,jB,jC,jD,reduceCtorEq,jE,jF]
 have aBy:h'.le h1:=fun m bl e=>by
  have:=hd m bl e;rw[hsm m or];simp only[Kc];rw[if_neg or,if_neg or,if_neg or];exact e
 have hm2:h1 n=some (.mp es c):=aBy _ _ hm1;rcases aBF with⟨q1,rfl⟩|⟨q1,id,q2,rfl,q3⟩
 ·have hv0:r.vars=[]:=by simpa using q1
  refine au ?_;refine aI (w7 (fun x=> !(bP x s==b)) _ _ _) rfl (aL _) ?_;refine Zn ?_;refine au ?_;rw[←hRC];refine au ?_;refine aC h1 (Kb _) ⟨?_,aBy⟩;unfold cL;simp only[hv0,go_sem,reduceIte,jA,jB,jC,jD,reduceCtorEq,jE,jF];rfl
 have hid:id<nx1:=hd1 _ _ q3;refine au ?_;have hlm:(r.vars.map V.str).length=r.vars.length:=jK ..;rw[hlm]
 refine bF ((j3 (fun x=> !(bP x s==b)) id r.vars _ _ h1 (h1.del id) nx1 q3 (by simp[Kh]) (fun m bl e _=>by simp only[Kh] at e;split at e<;>first|cases e|exact e) (fun m bl e=>by simp only[Kh] at e;split at e<;>first|cases e|exact hd1 m bl e)
  (fun x _=>tf s n es c _ (by simp only[Kh];rw[if_neg or];exact hm2) hs b (nx+1) (nx+2) (by simp only[Kh];rw[if_neg or];exact hb1) (by simp only[Kh];rw[if_neg or];exact hb2) x) or).mono ?_)
 rintro v h2 nx2 aAb ⟨zs,rfl,rfl⟩;unfold cY;refine Zn ?_;refine au ?_;rw[←hRC];have hfl:(r.vars.filter fun x=> !!(bP x s==b))=cL r s b:=by simp[cL]
 rw[hfl];refine fX (lE (t:=6) (n:=id) (k:= .leaf) (off:=0) (len:=(cL r s b).length) (es:=(cL r s b).map V.str++zs) rfl (by simp only[go_sem,reduceIte,jA,jB,jC,jD,reduceCtorEq,jE,jF]) Zm) ?_;have htk:(QA 0 ((cL r s b).map V.str++zs)).take (cL r s b).length=(cL r s b).map V.str:=by rw[Qo,List.take_append_of_le_length Zm];exact Ky Zm
 rw[htk];refine au ?_;have hne:r.vars≠ []:=fun e=>q1 (by rw[e];rfl);have hfr:frO r.vars= .free:=by cases hv:r.vars with|nil=>exact absurd hv hne|cons a l=>rfl
 refine aC _ (Kb _) ⟨?_,fun m bl e=>?_⟩
 ·simp only[hfr,go_sem,reduceIte,jA,jB,jC,jD,reduceCtorEq,jE,jF];rfl
 have:=hd m bl e;simp only[Kh,Kc];rw[if_neg or,if_neg or];exact aBy _ _ e
end Go.Proofs.YtgbiopfghdilnaaGreatDoor
