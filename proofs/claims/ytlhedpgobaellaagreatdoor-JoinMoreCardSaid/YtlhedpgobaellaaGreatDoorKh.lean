/-
Texts of this proof,one behind the other. No conditions.
-/
import Derived.Test.YtlhedpgobaellaaGreatDoorKfa
open Go.Proofs.YtlhedpgobaellaaGreatDoor.Hp renaming set→Ka,le_refl→Kb
open Bool renaming eq_iff_iff→Kc
open List renaming getElem_append_right→Kd,drop_eq_getElem_cons→Ke,getElem_append_left→Kf,replicate_succ→Ki,replicate_zero→Kj,not_mem_nil→Km,length_cons→Ko,cons_append→Kp,length_nil→Kq,nil_append→Ks,mem_cons→Kt,map_nil→Kw
open Nat renaming le_refl→Kg,zero_le→Kh,lt_or_ge→Kk,reduceAdd→Ku,reduceSub→Kv
open Nat renaming reduceAdd→jA,reduceSub→jB,reduceLT→jC,reduceLeDiff→jD,reduceEqDiff→jE
open Int renaming reduceToNat→jF,toNat_natCast→jG,natCast_add→jH,natCast_one→jI,natCast_zero→jJ
open List renaming length_map→jK,length_cons→jL,nil_append→jQ
set_option linter.all false
set_option maxHeartbeats 8000000
namespace Go.Proofs.YtlhedpgobaellaaGreatDoor
open Go.RowKit Go.Sort
attribute [local irreducible] IntKind.wrap
theorem EP(s:ByteArray)(h:Hp):aL Tryz.prog 194 [.str s] h (.fn (.func 239) [] [.ept .leaf [.str s] 0 0]):=by
 show aL Tryz.prog 194 [.str s] h (.fn (.func 239) [] [.ept .leaf [(V.str s).loose] 0 0]);refine aJ (fun L=>?_) fun h' nx hh=>ib (aB L.aVQ fun hd=>?_)
 ·simp[V.loose,V.names,bT]
 refine ZK ?_;refine au ?_;refine aC _ (Kb _) ⟨nx,Kg _,?_,rfl⟩;rfl
noncomputable def zC(s:ByteArray):List (List V):=(kD iV s (cG s 0)).1.map (fun t=>[t.v, .nilIface])++
 (match (kD iV s (cG s 0)).2 with
  |none=>[]
  |some a=>[[Tk.v ⟨0,⟨#[]⟩,a⟩, .iface 93 (.int .i64 2)]])
theorem EQ(s:ByteArray)(hs:s.size≤4000):wj Tryz.prog 239 [.ept .leaf [.str s] 0 0] Hp.none (zC s):=by
 intro yn J D hbJ hnJ hnD hJ h0 nx0 h0J hd0;refine aB L.aU1 fun hd=>?_;refine ZK ?_;have C1:=fun h=>jr s hs 0 (Kh _) h;refine au ?_;obtain⟨T,hT⟩:∃T,kD iV s (cG s 0)=T:=⟨_,rfl⟩;have hV:zC s=T.1.map (fun t=>[t.v, .nilIface])++(match T.2 with
  |none=>[]
  |some a=>[[Tk.v ⟨0,⟨#[]⟩,a⟩, .iface 93 (.int .i64 2)]]):=by rw[←hT];rfl
 refine aQ (fun p:Nat×Nat=>aD 36 0 [(0, .yld yn),(1, .ept .leaf [.str s] 0 0),(3, .int .i64 p.2)]) (fun p h nx=>p.2≤s.size∧p.1≤T.1.length∧T.1.drop p.1=(kD iV s p.2).1∧T.2=(kD iV s p.2).2∧J p.1 h nx∧aV h nx) (fun p=>s.size-p.2) (0,cG s 0) ⟨rk (Kh _),Kh _,by rw[hT];rfl,by rw[hT],hnJ _ _ _ _ h0J (Kg _),hd0.up (Kg _)⟩ (by simp only[WkL,aD,jH,jI,jJ,go_sem,reduceIte,jA,jB,jC,jD,reduceCtorEq,jE,jF]) ?_;rintro⟨i,a⟩ h nx ⟨ha,hi,h1,h2,hj,hdm⟩;simp only at ha hi h1 h2 hj hdm;generalize hQ:bB _ _ _ _ _=Q0;refine Zk ?_;rcases Kk a s.size with hlt|hge
 ·have hc:decide ((a:Int)<(s.size:Int))=true:=dct;have ha':(a:Int)≤(s.size:Int):=or;have C1:=fun h=>BF (s.extract a s.size) (by rw[fK];omega) (by rw[fK];omega) h;obtain⟨k,t,hn⟩:∃k t,fW iV (s.extract a s.size)=(k,t):=⟨_,_,rfl⟩;rw[hn] at C1;simp only[Tk.v] at C1;unfold L.aDJ;generalize hRC:aS.seq (aS.seq (aS.ops L.aDI) _) _=RC;refine aue (e5 hc hlt ha' (jG a) (Nat.le_of_lt hlt)) ?_;rw[←hRC];refine bG ?_;by_cases h0:k=0
  ·subst h0;rw[di hlt (by rw[hn])] at h1 h2;have hlen:T.1.length=i:=by
    have:T.1.length≤i:=by simpa using h1
    omega
   have hy:∀NX,nx≤NX→dL Tryz.prog yn [.agg [.int .i64 0, .str ⟨#[]⟩, .int .i64 a], .iface 93 (.int .i64 2)] h NX fun v h' nx'=>((v= .bool true∧J (i+1) h' nx')∨(v= .bool false∧D h' nx'))∧aV h' nx'∧NX≤nx':=fun NX hNX=>by
    have:=(hJ i (by rw[hV,h2];simp;omega) h NX (hnJ i h nx NX hj hNX) (hdm.up hNX)).dom;have e:(zC s)[i]'(by rw[hV,h2];simp;omega)=[.agg [.int .i64 0, .str ⟨#[]⟩, .int .i64 a], .iface 93 (.int .i64 2)]:=by
     simp only[hV,h2];rw[Kd (by simp;omega)];simp[hlen,Tk.v]
    rw[e] at this;exact this
   have hk0:((0:Int)==0)=true:=rfl;refine aue hk0 ?_;refine mP rfl ?_;refine((hy _ Zw).weaken (leo hdm)).mono ?_;rintro v h' nx' hnx ⟨hq,aVr,_⟩;unfold bQ;have aAi:J (i+1) h' nx'→J (zC s).length h' nx':=fun q=>by
    have:(zC s).length=i+1:=by rw[hV,h2];simp;omega
    rw[this];exact q
   refine au ?_;rw[←hQ];refine au ?_;exact⟨h',Kb _,hq.imp (fun q=>aAi q.2) (fun q=>q.2)⟩
  have aFe:=rP hlt hn h0;rw[aFe] at h1 h2;have hik:i<T.1.length:=by
   rcases Kk i T.1.length with q|q
   ·exact q
   rw[List.drop_of_length_le q] at h1;cases h1
  have hTi:T.1[i]=⟨k,t,a⟩:=by
   rw[Ke hik] at h1;injection h1
  have hTd:T.1.drop (i+1)=(kD iV s (cG s (a+t.size))).1:=by
   rw[Ke hik] at h1;injection h1
  have htz:=mJ (κ:=iV) (r:=s.extract a s.size) (by rw[hn];exact h0);rw[hn,fK] at htz;dsimp only at htz;have hsk:=rk (s:=s) (i:=a+t.size) or;have aZ8:=tY s (a+t.size);have hVl:i<(zC s).length:=by rw[hV];simp;omega
  have hy:∀NX,nx≤NX→dL Tryz.prog yn [.agg [.int .i64 k, .str t, .int .i64 a], .nilIface] h NX fun v h' nx'=>((v= .bool true∧J (i+1) h' nx')∨(v= .bool false∧D h' nx'))∧aV h' nx'∧NX≤nx':=fun NX hNX=>by
   have:=(hJ i hVl h NX (hnJ i h nx NX hj hNX) (hdm.up hNX)).dom;have e:(zC s)[i]'hVl=[.agg [.int .i64 k, .str t, .int .i64 a], .nilIface]:=by
    simp only[hV];rw[Kf (by simpa using hik)];simp[hTi,Tk.v]
   rw[e] at this;exact this
  have hk0:(k==0)=false:=by simpa using h0
  generalize hRQ:kQ (lwp Tryz.prog _) _=RQ;refine aue hk0 ?_;rw[←hRQ];refine dD (kO (t:=4) (n:=nx) (k:= .agg 3) (i:=0) (o:=0) (es:=[.agg [.int .i64 k, .str t, .int .i64 a]]) rfl (by simp only[go_sem,reduceIte,jA,jB,jC,jD,reduceCtorEq,jE,jF])) ?_;refine Zn ?_;have C2:=fun h=>jr s hs (a+t.size) or h;have hw:IntKind.i64.wrap ((a:Int)+(t.size:Int))=((a+t.size:Nat):Int):=wrp;refine au ?_;refine mP rfl ?_;refine((hy _ Zw).weaken ?_).mono ?_
  ·exact leo hdm
  rintro v h' nx' hnx ⟨hq,aVr,_⟩;unfold bQ;rcases hq with⟨rfl,hj'⟩|⟨rfl,hD⟩
  ·refine aue hw ?_;rw[←hQ];exact aF (i+1,cG s (a+t.size)) (by simp only;omega) ⟨hsk,hik,hTd,h2,hnJ _ _ _ _ hj' or,aVr.up or⟩ (by simp only[WkL,aD,jH,jI,jJ,go_sem,reduceIte,jA,jB,jC,jD,reduceCtorEq,jE,jF])
  refine au ?_;rw[←hQ];refine au ?_;exact⟨h',Kb _, .inr hD⟩
 have hc:decide ((a:Int)<(s.size:Int))=false:=dcf;refine aue hc ?_;rw[←hQ];refine au ?_;rw[mR hge] at h1 h2;have hlen:(zC s).length=i:=by
  rw[hV,h2];have:T.1.length≤i:=by simpa using h1
  simp;omega
 exact⟨h,Kb _, .inl (by rw[hlen];exact hj)⟩
theorem wY{t u v:Nat}{k1 k2 k3:Sh}{R:V→Hp→Nat→Prop}{s:St}(o1:(aY.load k1 (.slot t)).ok s.sl s.h)(o2:(aY.load k2 (.slot u)).ok s.sl s.h)(o3:(aY.load k3 (.slot v)).ok s.sl s.h)(h':Hp)(hle:h'.le s.h)
 (hR:R (.tup [(aY.load k1 (.slot t)).out s.sl s.h,(aY.load k2 (.slot u)).out s.sl s.h,(aY.load k3 (.slot v)).out s.sl s.h]) h' s.nx):sC [.cell t k1, .cell u k2, .cell v k3] R .ret s:=by
 have e3:=fun a b=>aY.aAb (R:=fun x=>∃h',h'.le s.h∧R (iS [a,b,x]) h' s.nx) o3;have e2:=fun a=>aY.aAb (R:=fun x=>(aY.load k3 (.slot v)).sem s.sl s.h fun y=>∃h',h'.le s.h∧R (iS [a,x,y]) h' s.nx) o2;have:=aY.aAb (R:=fun x=>(aY.load k2 (.slot u)).sem s.sl s.h fun y=>(aY.load k3 (.slot v)).sem s.sl s.h fun z=>∃h',h'.le s.h∧R (iS [x,y,z]) h' s.nx) o1 (e2 _ (e3 _ _ ⟨h',hle,hR⟩));exact this
theorem F6{h:Hp}{n0 n:Nat}{o:Own}{es:List V}(a:Acc h n0 o es)(hn:n<n0){b:Blk}:Acc (h.set n b) n0 o es:=by
 rcases a with a|⟨h1,id,h2,h3,h4⟩
 ·exact .inl a
 exact .inr ⟨h1,id,h2,h3,by simp only[Ka];rw[if_neg or];exact h4⟩
def rgF(nx1 a:Nat):List (Nat×Nat×V):=[(0,18, .ptr nx1 (.agg 3) 0 2),(1,19, .int .i64 a),(2,20, .iface 93 (.int .i64 2))]
def rgX(nx nx1:Nat):List (Nat×V):=[(2, .ptr nx .leaf 0 0),(3, .ptr (nx+1) .leaf 0 0),(4, .ptr (nx+2) .leaf 0 0),(6, .ptr nx1 (.agg 3) 0 0),(7, .iface 93 (.int .i64 2))]
def frO{α:Type}(l:List α):Own:=if l.isEmpty=true then .nil else .free
noncomputable def sG(s:ByteArray):V:=
 if 4000<s.size then .tup [.sl (.agg 3) .nil [], .int .i64 4000, .iface 93 (.int .i64 3)]
 else match (kD iV s (cG s 0)).2 with
  |none=> .tup [.sl (.agg 3) (frO (kD iV s (cG s 0)).1) ((kD iV s (cG s 0)).1.map Tk.v), .int .i64 0, .nilIface]
  |some a=> .tup [.sl (.agg 3) .nil [], .int .i64 a, .iface 93 (.int .i64 2)]
theorem tc(s:ByteArray)(L:Nat→Prop):(sG s).names L:=by
 unfold sG;split
 ·simp[V.names,bT]
 split
 ·refine⟨⟨?_,cQ (fun x=>Tk.aAO L x) _⟩,trivial,trivial,trivial⟩;intro n e;unfold frO at e;split at e<;>cases e
 simp[V.names,bT]
theorem AO{κ:ByteArray→Int}{s:ByteArray}:∀(n i:Nat),s.size-i≤n→(kD κ s i).1.length≤s.size-i
 |0,i,h=>by rw[mR or];simp
 |n+1,i,h=>by
  rcases Kk i s.size with hi|hi
  ·obtain⟨k,t,hn⟩:∃k t,fW κ (s.extract i s.size)=(k,t):=⟨_,_,rfl⟩;by_cases h0:k=0
   ·rw[di hi (by rw[hn];exact h0)];simp
   have hz:=mJ (κ:=κ) (r:=s.extract i s.size) (by rw[hn];exact h0);rw[hn] at hz;dsimp only at hz;rw[rP hi hn h0];have:=tY s (i+t.size);have:=AO (κ:=κ) (s:=s) n (cG s (i+t.size)) or;simp only[jL];omega
  rw[mR hi];simp
theorem xF(s:ByteArray)(h:Hp):aL Tryz.prog 130 [.str s] h (sG s):=by
 refine mG (tc s) fun h' nx hh=>aB L.aX9 fun hd=>?_;refine ZK ?_;by_cases hs:4000<s.size
 ·have g1:decide ((4000:Int)<(s.size:Int))=true:=dct;refine aue g1 ?_;refine wY (by simp only[go_sem,reduceIte,jA,jB,jC,jD,reduceCtorEq,jE,jF]) (by simp only[go_sem,reduceIte,jA,jB,jC,jD,reduceCtorEq,jE,jF]) (by simp only[go_sem,reduceIte,jA,jB,jC,jD,reduceCtorEq,jE,jF]) _ (Kb _) ⟨?_,leo hd⟩;simp only[V.aAt,V.loose,go_sem,reduceIte,jA,jB,jC,jD,reduceCtorEq,jE,jF];unfold sG;rw[if_pos hs]
 have g1:decide ((4000:Int)<(s.size:Int))=false:=dcf;have hit:=EQ s or;have C1:=fun h=>EP s h;refine aue g1 ?_;obtain⟨T,hT⟩:∃T,kD iV s (cG s 0)=T:=⟨_,rfl⟩;have hTl:T.1.length≤4000:=by
  have:=AO (κ:=iV) (s:=s) _ (cG s 0) (Kg _);rw[hT] at this;omega
 have hV:zC s=T.1.map (fun t=>[t.v, .nilIface])++(match T.2 with
  |none=>[]
  |some a=>[[Tk.v ⟨0,⟨#[]⟩,a⟩, .iface 93 (.int .i64 2)]]):=by rw[←hT];rfl
 have hLV:sG s=match T.2 with
  |none=> .tup [.sl (.agg 3) (frO T.1) (T.1.map Tk.v), .int .i64 0, .nilIface]
  |some a=> .tup [.sl (.agg 3) .nil [], .int .i64 a, .iface 93 (.int .i64 2)]:=by unfold sG;rw[if_neg hs,hT]
 rw[hLV];have aAd:∀n,nx≤n→h' n=none:=fun n hn=>aV.none hd hn;obtain⟨I,hI⟩:∃I:Nat→Hp→Nat→Prop,∀i h nx1,I i h nx1↔(i≤T.1.length∧h'.le h∧h nx=some (.arr .leaf [.sl (.agg 3) .nil []])∧h (nx+1)=some (.arr .leaf [.int .i64 0])∧h (nx+2)=some (.arr .leaf [.nilIface])∧∃o,h (nx+3)=some (.arr .leaf [.sl (.agg 3) o ((T.1.take i).map Tk.v)])∧Acc h (nx+5) o ((T.1.take i).map Tk.v)):=⟨_,fun _ _ _=>Iff.rfl⟩;obtain⟨E,hE⟩:∃E:bL→Hp→Nat→Prop,∀e h nx1,E e h nx1↔(e= .ret∧h'.le h∧∃a,T.2=some a∧h nx=some (.arr .leaf [.sl (.agg 3) .nil []])∧h (nx+1)=some (.arr .leaf [.int .i64 a])∧h (nx+2)=some (.arr .leaf [.iface 93 (.int .i64 2)])):=⟨_,fun _ _ _=>Iff.rfl⟩;have h0:∀k,(nx+k=nx+4)=(k=4):=fun k=>by rw[eq_iff_iff];omega
 refine mM hit rfl (fun x hx=>?_) (by exact dmo hd) I E ?_ ?_ ?_ ?_ ?_ ?_ ?_ ?_ ?_
 ·rw[hV] at hx;rcases List.mem_append.1 hx with q|q
  ·obtain⟨_,_,rfl⟩:=List.mem_map.1 q;rfl
  split at q
  ·cases q
  obtain rfl:x=_:=by simpa using q
  rfl
 ·exact fun i h nx1 hi=>bA h
 ·exact fun i h n1 n2 hi _=>(hI _ _ _).2 ((hI _ _ _).1 hi)
 ·intro i h n1 b hi;obtain⟨q0,q1,q2,q3,q4,o,q5,q6⟩:=(hI _ _ _).1 hi;refine(hI _ _ _).2 ⟨q0,eO q1 (aAd _ Zm) b,?_,?_,?_,o,?_,?_⟩
  all_goals first
   |exact F6 q6 Zm
   |(simp only[Ka];rw[if_neg or];assumption)
 ·exact fun e h n1 n2 hi _=>(hE _ _ _).2 ((hE _ _ _).1 hi)
 ·intro e h n1 b hi;obtain⟨q0,q1,a,q2,q3,q4,q5⟩:=(hE _ _ _).1 hi;refine(hE _ _ _).2 ⟨q0,eO q1 (aAd _ Zm) b,a,q2,?_,?_,?_⟩;all_goals (simp only[Ka];rw[if_neg or];assumption)
 ·refine(hI _ _ _).2 ⟨Kh _,leo hd,by simp only[go_sem,reduceIte,jA,jB,jC,jD,reduceCtorEq,jE,jF],by simp only[go_sem,reduceIte,jA,jB,jC,jD,reduceCtorEq,jE,jF],by simp only[go_sem,reduceIte,jA,jB,jC,jD,reduceCtorEq,jE,jF], .nil,by simp only[List.take_zero,Kw,go_sem,reduceIte,jA,jB,jC,jD,reduceCtorEq,jE,jF], .inl ⟨Zm,rfl⟩⟩
 ·intro i hi h nx1 X hii hnx hX hdm;obtain⟨q0,q1,q2,q3,q4,o,q5,aAs⟩:=(hI _ _ _).1 hii;simp only at hnx hX;have aCD:nx+4<nx1:=hnx;by_cases hik:i<T.1.length
  ·have e:(zC s)[i]=[T.1[i].v, .nilIface]:=by
    simp only[hV];rw[Kf (by simpa using hik)];simp
   rw[e];simp only[aAR,go_sem,reduceIte,jA,jB,jC,jD,reduceCtorEq,jE,jF];have hlen:((T.1.take i).map Tk.v).length=i:=by simp;omega
   have aXG:(i+1)*32≤140737488355328:=or;have hft:=Tk.aAD T.1[i];have l0:nx<nx1:=or;have l1:nx+1<nx1:=or;have l2:nx+2<nx1:=or;have l3:nx+3<nx1:=or;generalize hRR:EM (nx+4) X _=RR;refine aue (e8 q2 q3 q4 q5 aCD hlen hX hft) ?_;rw[←hRR];refine lD ?_ fun X'=>?_
   ·simp only[hX,aCD,go_sem,reduceIte,jA,jB,jC,jD,reduceCtorEq,jE,jF]
   generalize hH:Ka (Ka _ nx1 _) (nx+4) X'=H;have hH0:H nx=some (.arr .leaf [.sl (.agg 3) .nil []]):=by rw[←hH];simp only[q2,l0,go_sem,reduceIte,jA,jB,jC,jD,reduceCtorEq,jE,jF]
   have hH1:H (nx+1)=some (.arr .leaf [.int .i64 0]):=by rw[←hH];simp only[q3,l1,go_sem,reduceIte,jA,jB,jC,jD,reduceCtorEq,jE,jF]
   have hH2:H (nx+2)=some (.arr .leaf [.nilIface]):=by rw[←hH];simp only[q4,l2,go_sem,reduceIte,jA,jB,jC,jD,reduceCtorEq,jE,jF]
   have hH3:H (nx+3)=some (.arr .leaf [.sl (.agg 3) o ((T.1.take i).map Tk.v)]):=by rw[←hH];simp only[q5,l3,go_sem,reduceIte,jA,jB,jC,jD,reduceCtorEq,jE,jF]
   have hH4:H (nx+4)=some X':=by rw[←hH];simp only[go_sem,reduceIte,jA,jB,jC,jD,reduceCtorEq,jE,jF]
   have hH5:H nx1=some (.arr (.agg 3) [T.1[i].v]):=by rw[←hH];simp only[aCD,go_sem,reduceIte,jA,jB,jC,jD,reduceCtorEq,jE,jF]
   have hdH:aV H (nx1+2):=by rw[←hH];exact dmo hdm
   have aOx:h'.le H:=by rw[←hH];exact lef hd q1
   have aAi:∀(H2:Hp) (id nx2:Nat) (sl:List V),H2 nx=some (.arr .leaf [.sl (.agg 3) .nil []])→H2 (nx+1)=some (.arr .leaf [.int .i64 0])→H2 (nx+2)=some (.arr .leaf [.nilIface])→H2 (nx+3)=some (.arr .leaf [.sl (.agg 3) (.tok id) ((T.1.take i).map Tk.v++[T.1[i].v])])→H2 (nx+4)=some X'→H2 id=some .tip→nx+5≤id→h'.le H2→mF (nx+4) X' (I (i+1)) E .normal ⟨sl,H2,nx2⟩:=by
    intro H2 id nx2 sl p0 p1 p2 p3 p4 p5 p6 p7;have htk:(T.1.take (i+1)).map Tk.v=(T.1.take i).map Tk.v++[T.1[i].v]:=by
     rw[List.take_succ_eq_append_getElem hik,List.map_append];rfl
    exact fN p4 ((hI _ _ _).2 ⟨hik,p7,p0,p1,p2,_,by rw[htk];exact p3,by rw[htk];exact .inr ⟨Zm,id,p6,rfl,p5⟩⟩)
   generalize aVy:mF (nx+4) X' _ _=RR at aAi⊢;rcases aAs with⟨he,rfl⟩|⟨hne,id,hid,rfl,aVd⟩
   ·rw[he] at hH3 aAi;refine aue (e8 hH0 hH1 hH2 hH3 hH4 hH5 hft (e5 l0 l1 l2 l3 aCD)) ?_;refine aAi _ (nx1+3) _ _ ?_ ?_ ?_ ?_ ?_ ?_ or (lef hd aOx);all_goals simp only[hH0,hH1,hH2,hH3,hH4,l0,l1,l2,l3,aCD,jQ,go_sem,reduceIte,jA,jB,jC,jD,reduceCtorEq,jE,jF]
   have aGq:id<nx1:=hdm _ _ aVd;have hHt:H id=some .tip:=by rw[←hH];simp only[aVd,aGq,show(id=nx+4)=False from fls,go_sem,reduceIte,jA,jB,jC,jD,reduceCtorEq,jE,jF]
   have m3:nx+3<id:=or;have m4:nx+4<id:=or;have m0:nx<id:=or;have m1:nx+1<id:=or;have m2:nx+2<id:=or;refine aue (e8 hH0 hH1 hH2 hH3 hH4 hH5 hft (e13 l0 l1 l2 l3 aCD hHt aGq m3 m4 m0 m1 m2 (e2 hlen aXG))) ?_;refine aAi _ (nx1+3) _ _ ?_ ?_ ?_ ?_ ?_ ?_ or (lef hd aOx);all_goals simp only[hH0,hH1,hH2,hH3,hH4,l0,l1,l2,l3,aCD,m0,m1,m2,m3,m4,aGq,go_sem,reduceIte,jA,jB,jC,jD,reduceCtorEq,jE,jF]
  have aW9:i=T.1.length:=by rw[hV] at hi;simp at hi;cases hT2:T.2<;>simp[hT2] at hi<;>omega
  obtain⟨a,hT2⟩:∃a,T.2=some a:=by
   cases hT2:T.2 with
   |none=>rw[hV,hT2] at hi;simp at hi;omega
   |some a=>exact⟨a,rfl⟩
  have e:(zC s)[i]=[Tk.v ⟨0,⟨#[]⟩,a⟩, .iface 93 (.int .i64 2)]:=by
   simp only[hV,hT2];rw[Kd (by simp;omega)];simp[aW9]
  rw[e];simp only[aAR,Tk.v,go_sem,reduceIte,jA,jB,jC,jD,reduceCtorEq,jE,jF];have l0:nx<nx1:=or;have l1:nx+1<nx1:=or;have l2:nx+2<nx1:=or;have l3:nx+3<nx1:=or;generalize hRR:EM (nx+4) X _=RR;refine aue (e7 q2 q3 q4 q5 aCD hX l0) ?_;rw[←hRR];refine lD ?_ fun X'=>?_
  ·simp only[hX,aCD,go_sem,reduceIte,jA,jB,jC,jD,reduceCtorEq,jE,jF]
  generalize hH:Ka (Ka _ nx1 _) (nx+4) X'=H;have hH0:H nx=some (.arr .leaf [.sl (.agg 3) .nil []]):=by rw[←hH];simp only[q2,l0,go_sem,reduceIte,jA,jB,jC,jD,reduceCtorEq,jE,jF]
  have hH1:H (nx+1)=some (.arr .leaf [.int .i64 0]):=by rw[←hH];simp only[q3,l1,go_sem,reduceIte,jA,jB,jC,jD,reduceCtorEq,jE,jF]
  have hH2:H (nx+2)=some (.arr .leaf [.nilIface]):=by rw[←hH];simp only[q4,l2,go_sem,reduceIte,jA,jB,jC,jD,reduceCtorEq,jE,jF]
  have hH4:H (nx+4)=some X':=by rw[←hH];simp only[go_sem,reduceIte,jA,jB,jC,jD,reduceCtorEq,jE,jF]
  have hH5:H nx1=some (.arr (.agg 3) [.agg [.int .i64 0, .str ⟨#[]⟩, .int .i64 a]]):=by rw[←hH];simp only[aCD,go_sem,reduceIte,jA,jB,jC,jD,reduceCtorEq,jE,jF]
  have aOx:h'.le H:=by rw[←hH];exact lef hd q1
  generalize aVy:mF (nx+4) X' _ _=RR;refine aue (e8 hH0 hH1 hH2 hH4 hH5 l0 l1 l2) ?_;refine rM ?_;refine⟨fun D s'=>RG (rgF nx1 a) (rgX nx nx1) 26 D s'.sl∧(∀n,n≠nx+1→n≠nx+2→s'.h n=H n)∧s'.h (nx+1)=some (.arr .leaf [if D 4=true then .int .i64 a else .int .i64 0])∧s'.h (nx+2)=some (.arr .leaf [if D 5=true then .iface 93 (.int .i64 2) else .nilIface]),⟨⟨rfl,?_,fun f _ e=>by cases e⟩,fun _ _ _=>rfl,hH1,hH2⟩,?_,?_⟩
  ·intro p hp;simp only[rgX,Kt,Km,or_false] at hp;rcases hp with rfl|rfl|rfl|rfl|rfl<;>rfl
  ·rintro D k oo aAG ⟨sl,hq,n2⟩ hk hDk aAw hcl ⟨rs,r0,r1,r2⟩;dsimp only at rs r0 r1 r2;have x2:=rs.fx (2, .ptr nx .leaf 0 0) (by simp[rgX]);have x3:=rs.fx (3, .ptr (nx+1) .leaf 0 0) (by simp[rgX]);have x4:=rs.fx (4, .ptr (nx+2) .leaf 0 0) (by simp[rgX]);have x6:=rs.fx (6, .ptr nx1 (.agg 3) 0 0) (by simp[rgX]);have x7:=rs.fx (7, .iface 93 (.int .i64 2)) (by simp[rgX]);have y:∀f∈rgF nx1 a,f.1∈aAG→sl.getD f.2.1 V.undef=f.2.2:=fun f hf hd=>rs.dn f hf (aAw _ hd);have g0:hq nx=some (.arr .leaf [.sl (.agg 3) .nil []]):=by rw[r0 nx or or];exact hH0
   have g5:hq nx1=some (.arr (.agg 3) [.agg [.int .i64 0, .str ⟨#[]⟩, .int .i64 a]]):=by rw[r0 nx1 or or];exact hH5
   dsimp only at x2 x3 x4 x6 x7;rcases k with _|_|_|_|_|_|k;all_goals first|(injection hk with hk;injection hk with p1 p2;subst p1;subst p2)|skip
   all_goals simp only[rgF,Kt,Km,or_false,forall_eq_or_imp,forall_eq,jE,reduceCtorEq,false_implies,implies_true,true_or,or_true,true_implies,and_true,true_and] at y
   all_goals simp only[aZ,LOp.run,LOp.sem,aY.sem,aK.ev,bH,x2,x3,x4,x6,x7,y,g0,g5]
   ·exact⟨rs.slot 0 18 _ ZM (by simp[rgF]) (by simp[rgX]),r0,r1,r2⟩
   ·exact⟨trivial,Zm,by simp[cB],rs.slot 1 19 (.int .i64 a) ZM (by simp[rgF]) (by simp[rgX]),r0,r1,r2⟩
   ·exact⟨rs.slot 2 20 _ ZM (by simp[rgF]) (by simp[rgX]),r0,r1,r2⟩
   ·refine⟨trivial,Zm,rfl,rfl,rs.none 3 (by simp[rgF]),fun n q1 q2=>?_,?_,?_⟩
    ·simp only[Ka];split
     ·rename_i e;subst e;rw[hH0];rfl
     exact r0 n q1 q2
    ·simp only[Ka];rw[if_neg or];exact r1
    simp only[Ka];rw[if_neg or];exact r2
   ·rw[r1];refine⟨rfl,Zm,rfl,rfl,rs.none 4 (by simp[rgF]),fun n q1 q2=>?_,?_,?_⟩
    ·simp only[Ka];rw[if_neg q1];exact r0 n q1 q2
    ·rw[show D 4=false from hDk];simp only[Ka,if_true];rfl
    simp only[Ka];rw[if_neg or];exact r2
   ·rw[r2];refine⟨rfl,Zm,rfl,rfl,rs.none 5 (by simp[rgF]),fun n q1 q2=>?_,?_,?_⟩
    ·simp only[Ka];rw[if_neg q2];exact r0 n q1 q2
    ·simp only[Ka];rw[if_neg or];exact r1
    rw[show D 5=false from hDk];simp only[Ka,if_true];rfl
   simp[L.aCW] at hk
  rintro D ⟨sl,H9,n9⟩ hD ⟨rs,r0,r1,r2⟩;dsimp only at rs r0 r1 r2;rw[if_pos (hD 4 (by simp[L.aCW]))] at r1;rw[if_pos (hD 5 (by simp[L.aCW]))] at r2;unfold L.aDE;refine au ?_;rw[←aVy];refine yb (by dsimp only;rw[r0 _ or or];exact hH4) ((hE _ _ _).2 ⟨rfl,fun n b hb=>?_,a,hT2,?_,r1,r2⟩)
  ·have hn:n<nx:=hd n b hb;dsimp only;rw[r0 n or or];exact aOx n b hb
  dsimp only;rw[r0 _ or or];exact hH0
 ·intro h nx1 hii hnx hdm;obtain⟨q0,q1,q2,q3,q4,o,q5,aAs⟩:=(hI _ _ _).1 hii;simp only at hnx;have hT2:T.2=none:=by
   cases hT2:T.2 with
   |none=>rfl
   |some a=>exfalso;rw[hV,hT2] at q0;simp at q0;omega
  have hlx:(zC s).length=T.1.length:=by rw[hV,hT2];simp
  rw[hlx,List.take_length] at q5 aAs;refine aue (e4 q2 q3 q4 q5) ?_;refine wY (by simp only[q2,q3,q4,q5,go_sem,reduceIte,jA,jB,jC,jD,reduceCtorEq,jE,jF]) (by simp only[q2,q3,q4,q5,go_sem,reduceIte,jA,jB,jC,jD,reduceCtorEq,jE,jF]) (by simp only[q2,q3,q4,q5,go_sem,reduceIte,jA,jB,jC,jD,reduceCtorEq,jE,jF]) _ (Kb _) ⟨?_,?_⟩
  ·simp only[hT2,q2,q3,q4,q5,V.aAt,List.map_cons,Kw,aAs.loose,frO,List.isEmpty_map,go_sem,reduceIte,jA,jB,jC,jD,reduceCtorEq,jE,jF];cases T.1<;>rfl
  exact lef hd (kE q1 (aAd (nx+4) or))
 intro e h nx1 hee hnx hdm hc;obtain⟨rfl,q1,a,q2,q3,q4,q5⟩:=(hE _ _ _).1 hee;simp only at hnx;refine au ?_;refine wY (by simp only[q3,q4,q5,go_sem,reduceIte,jA,jB,jC,jD,reduceCtorEq,jE,jF]) (by simp only[q3,q4,q5,go_sem,reduceIte,jA,jB,jC,jD,reduceCtorEq,jE,jF]) (by simp only[q3,q4,q5,go_sem,reduceIte,jA,jB,jC,jD,reduceCtorEq,jE,jF]) _ (Kb _) ⟨?_,?_⟩
 ·simp only[q2,q3,q4,q5,V.aAt,V.loose,go_sem,reduceIte,jA,jB,jC,jD,reduceCtorEq,jE,jF]
 exact kE q1 (aAd _ Zm)
end Go.Proofs.YtlhedpgobaellaaGreatDoor
namespace Go.Proofs.YtlhedpgobaellaaGreatDoor
open Go.RowKit Go.Sort
attribute [local irreducible] IntKind.wrap
instance:DecidableEq Tk:=fun a b=>decidable_of_iff (a.k=b.k∧a.t=b.t∧a.a=b.a) ⟨fun⟨h1,h2,h3⟩=>by cases a;cases b;simp only at h1 h2 h3;rw[h1,h2,h3],fun h=>by rw[h];exact⟨rfl,rfl,rfl⟩⟩
noncomputable def B2(k:Int)(s:ByteArray):Bool:=decide (s.size≤4000∧kD iV s (cG s 0)=([⟨k,s,0⟩],none))
theorem Ea(s:ByteArray):B2 3 s=Be s:=by
 rw[Kc];unfold B2;rw[decide_eq_true_eq,Fi AB];exact⟨fun h=>h.2,fun h=>⟨by have:=(of_decide_eq_true h).2.1;omega,h⟩⟩
theorem Eb(s:ByteArray):B2 2 s=Dm s:=by
 rw[Kc];unfold B2;rw[decide_eq_true_eq,Fj AB];exact⟨fun h=>h.2,fun h=>⟨by have:=(of_decide_eq_true (of_decide_eq_true h).1).2.1;omega,h⟩⟩
theorem Ga{k:Int}{s:ByteArray}{t:Tk}:veq (.plain (.agg 3) [.int, .str, .int]) t.v (.agg [.int .i64 k, .str s, .int .i64 0])=some (decide (t=⟨k,s,0⟩)):=by
 obtain⟨k',s',a⟩:=t;have e:veq (.plain (.agg 3) [.int, .str, .int]) (Tk.v ⟨k',s',a⟩) (.agg [.int .i64 k, .str s, .int .i64 0])=some ((k'==k)&&((s'.toList==s.toList)&&((a:Int)==0))):=rfl;rw[e,eA];congr 1;rw[Kc];simp
theorem io(s:ByteArray)(h:Hp):aL Tryz.prog 225 [.str s] h (.bool (Be s)):=by
 refine aJ (fun L=>trivial) fun h' nx hh=>aB L.aN6 fun hd=>?_;simp only[Ko,Kq,Ku,Kv,Ki,Kj,Kp,Ks,V.undef];rw[←Ea];have C0:=fun h=>xF s h;unfold sG at C0;unfold B2;by_cases h1:4000<s.size
 ·rw[if_pos h1] at C0;have C1:=C0;refine au ?_;refine aC h' (leo hd) ⟨?_,rfl⟩;first|rfl|(rw[decide_eq_false or];rfl)
 rw[if_neg h1] at C0;obtain⟨T,hT⟩:∃T,kD iV s (cG s 0)=T:=⟨_,rfl⟩;rw[hT] at C0⊢;obtain⟨l,b⟩:=T;have h2:s.size≤4000:=or;cases b with
 |some a=>
  have C1:∀h,aL Tryz.prog 130 [.str s] h (.tup [.sl (.agg 3) .nil [], .int .i64 a, .iface 93 (.int .i64 2)]):=C0;refine au ?_;refine aC h' (leo hd) ⟨?_,rfl⟩;first|rfl|(rw[decide_eq_false Zm];rfl)
 |none=>
  match l with
  | []=>
   have C1:∀h,aL Tryz.prog 130 [.str s] h (.tup [.sl (.agg 3) .nil [], .int .i64 0, .nilIface]):=C0;have hk:(((0:Nat):Int)==1)=false:=rfl;refine aue hk ?_;refine aC h' (leo hd) ⟨?_,rfl⟩;first|rfl|(rw[decide_eq_false Zm];rfl)
  | [t]=>
   have C1:∀h,aL Tryz.prog 130 [.str s] h (.tup [.sl (.agg 3) .free [t.v], .int .i64 0, .nilIface]):=C0;have hv:=Ga (k:=3) (s:=s) (t:=t);have hk:(((1:Nat):Int)==1)=true:=rfl;have hk':(((0+1:Nat):Int)==1)=true:=rfl;refine aue (e4 hv (Tk.aAD t) hk hk') ?_;refine aC h' (leo hd) ⟨vb ?_,rfl⟩;simp[h2]
  |t::u::r=>
   have C1:∀h,aL Tryz.prog 130 [.str s] h (.tup [.sl (.agg 3) .free (t.v::u.v::r.map Tk.v), .int .i64 0, .nilIface]):=C0;obtain⟨q,hq⟩:∃q,r.map Tk.v=q:=⟨_,rfl⟩;rw[hq] at C1;have hk:(((q.length+1+1:Nat):Int)==1)=false:=bqf;have hk':((q.length:Int)+1+1==1)=false:=bqf;refine aue (e2 hk hk') ?_;refine aC h' (leo hd) ⟨?_,rfl⟩;first|rfl|(rw[decide_eq_false Zm];rfl)
theorem yg(s:ByteArray)(h:Hp):aL Tryz.prog 177 [.str s] h (.bool (Dm s)):=by
 refine aJ (fun L=>trivial) fun h' nx hh=>aB L.aXh fun hd=>?_;simp only[Ko,Kq,Ku,Kv,Ki,Kj,Kp,Ks,V.undef];rw[←Eb];have C0:=fun h=>xF s h;unfold sG at C0;unfold B2;by_cases h1:4000<s.size
 ·rw[if_pos h1] at C0;have C1:=C0;refine au ?_;refine aC h' (leo hd) ⟨?_,rfl⟩;first|rfl|(rw[decide_eq_false or];rfl)
 rw[if_neg h1] at C0;obtain⟨T,hT⟩:∃T,kD iV s (cG s 0)=T:=⟨_,rfl⟩;rw[hT] at C0⊢;obtain⟨l,b⟩:=T;have h2:s.size≤4000:=or;cases b with
 |some a=>
  have C1:∀h,aL Tryz.prog 130 [.str s] h (.tup [.sl (.agg 3) .nil [], .int .i64 a, .iface 93 (.int .i64 2)]):=C0;refine au ?_;refine aC h' (leo hd) ⟨?_,rfl⟩;first|rfl|(rw[decide_eq_false Zm];rfl)
 |none=>
  match l with
  | []=>
   have C1:∀h,aL Tryz.prog 130 [.str s] h (.tup [.sl (.agg 3) .nil [], .int .i64 0, .nilIface]):=C0;have hk:(((0:Nat):Int)==1)=false:=rfl;refine aue hk ?_;refine aC h' (leo hd) ⟨?_,rfl⟩;first|rfl|(rw[decide_eq_false Zm];rfl)
  | [t]=>
   have C1:∀h,aL Tryz.prog 130 [.str s] h (.tup [.sl (.agg 3) .free [t.v], .int .i64 0, .nilIface]):=C0;have hv:=Ga (k:=2) (s:=s) (t:=t);have hk:(((1:Nat):Int)==1)=true:=rfl;have hk':(((0+1:Nat):Int)==1)=true:=rfl;refine aue (e4 hv (Tk.aAD t) hk hk') ?_;refine aC h' (leo hd) ⟨vb ?_,rfl⟩;simp[h2]
  |t::u::r=>
   have C1:∀h,aL Tryz.prog 130 [.str s] h (.tup [.sl (.agg 3) .free (t.v::u.v::r.map Tk.v), .int .i64 0, .nilIface]):=C0;obtain⟨q,hq⟩:∃q,r.map Tk.v=q:=⟨_,rfl⟩;rw[hq] at C1;have hk:(((q.length+1+1:Nat):Int)==1)=false:=bqf;have hk':((q.length:Int)+1+1==1)=false:=bqf;refine aue (e2 hk hk') ?_;refine aC h' (leo hd) ⟨?_,rfl⟩;first|rfl|(rw[decide_eq_false Zm];rfl)
end Go.Proofs.YtlhedpgobaellaaGreatDoor
namespace Go.Proofs.YtlhedpgobaellaaGreatDoor
open Go.RowKit Go.Sort
attribute [local irreducible] IntKind.wrap
theorem wR(s:ByteArray):(s.toList==(⟨#[]⟩:ByteArray).toList)=decide (s.size=0):=by
 rw[eA];congr 1;rw[eq_iff_iff];exact⟨fun e=>by rw[e];rfl,fun e=>by cases hs:s with|mk d=>rw[hs] at e;simp only[ByteArray.size] at e;rw[Array.eq_empty_of_size_eq_zero e]⟩
theorem Bb(w:Vl):veq (.plain (.agg 3) [.int, .int, .str]) (.agg [.int .i64 w.k, .int .i64 w.n, .str w.s]) (.agg [.int .i64 0, .int .i64 0, .str ⟨#[]⟩])=some (wo w):=by
 have e:veq (.plain (.agg 3) [.int, .int, .str]) (.agg [.int .i64 w.k, .int .i64 w.n, .str w.s]) (.agg [.int .i64 0, .int .i64 0, .str ⟨#[]⟩])=some ((w.k==0)&&((w.n==0)&&(w.s.toList==(⟨#[]⟩:ByteArray).toList))):=rfl;rw[e,wR];congr 1;rw[Kc];unfold wo;simp
theorem wO(t:Tr):veq (.plain (.agg 4) [.str, .int, .int, .str]) (.agg [.str t.x, .int .i64 t.w.k, .int .i64 t.w.n, .str t.w.s]) (.agg [.str ⟨#[]⟩, .int .i64 0, .int .i64 0, .str ⟨#[]⟩])=some (pN t):=by
 have e:veq (.plain (.agg 4) [.str, .int, .int, .str]) (.agg [.str t.x, .int .i64 t.w.k, .int .i64 t.w.n, .str t.w.s]) (.agg [.str ⟨#[]⟩, .int .i64 0, .int .i64 0, .str ⟨#[]⟩])=some ((t.x.toList==(⟨#[]⟩:ByteArray).toList)&&((t.w.k==0)&&((t.w.n==0)&&(t.w.s.toList==(⟨#[]⟩:ByteArray).toList)))):=rfl;rw[e,wR,wR];congr 1;rw[Kc];unfold pN;simp
theorem pR(t:Tr)(h:Hp):aL Tryz.prog 179 [t.v] h (.bool (gS t)):=by
 refine aJ (fun L=>trivial) fun h' nx hh=>aB L.aV1 fun hd=>?_;refine ZK ?_;have C1:∀h,aL Tryz.prog 94 [.agg [.int .i64 t.w.k, .int .i64 t.w.n, .str t.w.s]] h (.bool (bK t.w)):=fun h=>iG t.w h;have C2:=fun h=>io t.x h;have hz:=Bb t.w;have h0:=wR t.x;unfold gS;by_cases h1:t.x.size=0
 ·have g1:decide (t.x.size=0)=true:=dct;refine aue (e3 Tr.v.eq_1 h0 g1) ?_;refine aC h' (leo hd) ⟨?_,rfl⟩;rw[if_pos h1];rfl
 have g1:decide (t.x.size=0)=false:=dcf;rw[if_neg h1];cases h2:Be t.x with
 |true=>
  rw[h2] at C2;refine aue (e4 Tr.v.eq_1 h0 g1 hz) ?_;refine aC h' (leo hd) ⟨?_,rfl⟩;rfl
 |false=>
  rw[h2] at C2;refine aue (e4 Tr.v.eq_1 h0 g1 hz) ?_;refine aC h' (leo hd) ⟨?_,rfl⟩;rfl
theorem ki(e:Ex)(h:Hp):aL Tryz.prog 141 [e.v] h (.bool (pF e)):=by
 refine aJ (fun L=>trivial) fun h' nx hh=>aB L.aXu fun hd=>?_;obtain⟨op,t,o,ks⟩:=e;rw[Ex.aAn];refine ZK ?_;have hz:=wO t;unfold pF;by_cases h1:op=0
 ·have g1:(op==0)=true:=bqt;cases h2:pN t with
  |true=>
   rw[h2] at hz;cases ks with
   |nil=>
    have hk:(((0:Nat):Int)==0)=true:=rfl;refine aue (e8 Ex.cs.eq_1 Ex.op.eq_1 Ex.t.eq_1 Ex.o.eq_1 Ex.kids.eq_1 g1 hz hk) ?_;refine aC h' (leo hd) ⟨?_,rfl⟩;simp[h1,h2,Ex.op,Ex.kids,Ex.t]
   |cons a r=>
    obtain⟨q,hq⟩:∃q,r.map Ex.v=q:=⟨_,rfl⟩;have hm:(a::r).map Ex.v=a.v::q:=by rw[←hq];rfl
    have hk:(((q.length+1:Nat):Int)==0)=false:=bqf;have hk':((q.length:Int)+1==0)=false:=bqf;refine aue (e10 Ex.cs.eq_1 Ex.op.eq_1 Ex.t.eq_1 Ex.o.eq_1 Ex.kids.eq_1 g1 hz hk hk' hm) ?_;refine aC h' (leo hd) ⟨?_,rfl⟩;simp[h1,h2,Ex.op,Ex.kids,Ex.t]
  |false=>
   rw[h2] at hz;refine aue (e7 Ex.cs.eq_1 Ex.op.eq_1 Ex.t.eq_1 Ex.o.eq_1 Ex.kids.eq_1 g1 hz) ?_;refine aC h' (leo hd) ⟨?_,rfl⟩;simp[h1,h2,Ex.op,Ex.kids,Ex.t]
 have g1:(op==0)=false:=bqf;refine aue (e6 Ex.cs.eq_1 Ex.op.eq_1 Ex.t.eq_1 Ex.o.eq_1 Ex.kids.eq_1 g1) ?_;refine aC h' (leo hd) ⟨?_,rfl⟩;simp[h1,Ex.op,Ex.kids,Ex.t]
theorem kl0(l:List Ex):((l.length:Int)==0)=decide (l=[]):=by cases l<;>simp<;>omega
theorem kl2(l:List Ex):((l.length:Int) != 2)=decide (l.length≠2):=by
 rw[Kc];simp;omega
theorem vi{a b:Int}(h:a=b):V.int .i64 a=V.int .i64 b:=by rw[h]
theorem zq(n:Nat)(op:Int)(t:Tr)(o:Own)(ks:List Ex)(h:ks.length≠2):eY (n+1) (.mk op t o ks)=if op=0∧ks=[]∧gS t=true then 0 else-1:=by
 unfold eY;match ks,h with
 | [],_=>rfl
 | [a],_=>rfl
 | [a,b],h=>exact absurd rfl h
 |a::b::c::r,_=>rfl
theorem FQ(n:Nat)(op:Int)(t:Tr)(o:Own)(a b:Ex):eY (n+1) (.mk op t o [a,b])=if 1≤op∧op≤3∧pN t=true then (if eY n a<0∨eY n b<0 then-1 else 1+yW true (eY n a) (eY n b)) else-1:=by
 conv=>lhs;unfold eY
 rw[if_neg Zm]
theorem Cq:∀(n:Nat) (hn:n≤100) (e:Ex) (h:Hp),aL Tryz.prog 204 [e.v, .int .i64 n] h (.int .i64 (eY n e)):=by
 intro n;induction n with
 |zero=>
  intro hn e h;refine aJ (fun L=>trivial) fun h' nx hh=>aB L.aGW fun hd=>?_;obtain⟨op,t,o,ks⟩:=e;rw[Ex.aAn];refine ZK ?_;have hz:=wO t;have k0:=kl0 ks;have k2:=kl2 ks;have hn0:(((0:Nat):Int)==0)=true:=rfl;have C1:∀h,aL Tryz.prog 179 [.agg [.str t.x, .int .i64 t.w.k, .int .i64 t.w.n, .str t.w.s]] h (.bool (gS t)):=fun h=>pR t h;unfold eY
  (repeat' (first|(with_reducible first|refine stp ?_|refine cD ZM ?_|refine wE (fun _=>?_) (fun _=>?_))|((first|(with_reducible refine nC ?_;first|refine kX rfl ?_ ?_|refine aI (C1 _) rfl (aH _) ?_|refine Zx ?_)|(with_reducible refine nE ?_;first|refine lC rfl ?_ ?_|refine ZX ?_)|refine Zy ?_)<;>try simp only[Ex.cs.eq_1,Ex.op.eq_1,Ex.t.eq_1,Ex.o.eq_1,Ex.kids.eq_1,hz,k0,k2,hn0,jK,go_sem,reduceIte,jA,jB,jC,jD,reduceCtorEq,jE,jF])|refine ZY ?_|omega))
  all_goals refine aC h' (leo hd) ⟨vi ?_,rfl⟩
  all_goals simp_all
 |succ n ih=>
  intro hn e h;refine aJ (fun L=>trivial) fun h' nx hh=>aB L.aGW fun hd=>?_;obtain⟨op,t,o,ks⟩:=e;rw[Ex.aAn];refine ZK ?_;have hz:=wO t;have k0:=kl0 ks;have k2:=kl2 ks;have hn0:(((n+1:Nat):Int)==0)=false:=bqf;have hn1:((n:Int)+1==0)=false:=bqf;have C1:∀h,aL Tryz.prog 179 [.agg [.str t.x, .int .i64 t.w.k, .int .i64 t.w.n, .str t.w.s]] h (.bool (gS t)):=fun h=>pR t h;have hw:IntKind.i64.wrap (((n+1:Nat):Int)-1)=(n:Int):=wrp;have hw':IntKind.i64.wrap ((n:Int)+1-1)=(n:Int):=wrp;by_cases hk:ks.length=2
  ·obtain⟨a,b,rfl⟩:∃a b,ks=[a,b]:=by
    match ks,hk with
    | [a,b],_=>exact⟨a,b,rfl⟩
   rw[FQ];have D1:=fun h=>ih or a h;have D2:=fun h=>ih or b h;have ha:=Ex.aAD a;have hb:=Ex.aAD b;have hm: [a,b].map Ex.v=[a.v,b.v]:=rfl;have hl:(((0+1+1:Nat):Int)==0)=false:=rfl;have hl2:(((0+1+1:Nat):Int) != 2)=false:=rfl;have hg1:=oJ n a;have hg2:=oJ n b;have hws:IntKind.i64.wrap (1+yW true (eY n a) (eY n b))=1+yW true (eY n a) (eY n b):=by
    unfold yW;rw[if_pos rfl];split<;>exact wrp
   (repeat' (first|(with_reducible first|refine stp ?_|refine cD ZM ?_|refine wE (fun _=>?_) (fun _=>?_))|((first|(with_reducible refine nC ?_;first|refine kX rfl ?_ ?_|refine aI (C1 _) rfl (aH _) ?_|refine Zx ?_)|(with_reducible refine nE ?_;first|refine lC rfl ?_ ?_|refine bD (D1 _) rfl (bA _) ?_|refine bD (D2 _) rfl (bA _) ?_|refine ZX ?_)|refine Zy ?_)<;>try simp only[Ex.cs.eq_1,Ex.op.eq_1,Ex.t.eq_1,Ex.o.eq_1,Ex.kids.eq_1,hz,hm,ha,hb,hl,hl2,hn0,hn1,hw,hw',hws,go_sem,reduceIte,jA,jB,jC,jD,reduceCtorEq,jE,jF])|refine ZY ?_|omega))
   all_goals refine aC h' (leo hd) ⟨vi ?_,rfl⟩
   all_goals try simp_all
   all_goals try (intros;omega)
  rw[zq _ _ _ _ _ hk];have k2':((ks.length:Int) != 2)=true:=bnt
  (repeat' (first|(with_reducible first|refine stp ?_|refine cD ZM ?_|refine wE (fun _=>?_) (fun _=>?_))|((first|(with_reducible refine nC ?_;first|refine kX rfl ?_ ?_|refine aI (C1 _) rfl (aH _) ?_|refine Zx ?_)|(with_reducible refine nE ?_;first|refine lC rfl ?_ ?_|refine ZX ?_)|refine Zy ?_)<;>try simp only[Ex.cs.eq_1,Ex.op.eq_1,Ex.t.eq_1,Ex.o.eq_1,Ex.kids.eq_1,hz,k0,k2',hn0,hn1,jK,go_sem,reduceIte,jA,jB,jC,jD,reduceCtorEq,jE,jF])|refine ZY ?_|omega))
  all_goals refine aC h' (leo hd) ⟨vi ?_,rfl⟩
  all_goals simp_all
theorem j5(e:Ex)(h:Hp):aL Tryz.prog 142 [e.v] h (.bool (sY e)):=by
 refine aJ (fun L=>trivial) fun h' nx hh=>aB L.aV4 fun hd=>?_;have he:=Ex.aAn e;have C1:∀h,aL Tryz.prog 204 [.agg e.cs, .int .i64 20] h (.int .i64 (eY 20 e)):=fun h=>he▸Cq 20 or e h;rw[he];refine ZK ?_;refine aue Ex.cs.eq_1 ?_;refine aC h' (leo hd) ⟨vb ?_,rfl⟩;have:=xQ 20 e;unfold sY;rw[←this];simp
theorem pr{α:Type}(p:α→Bool)(l:List α):(!l.any fun x=> !p x)=l.all p:=by
 induction l with
 |nil=>rfl
 |cons a r ih=>simp only[List.any_cons,List.all_cons,Bool.not_or,ih,Bool.not_not]
theorem DJ:aE Tryz.prog 226=some (LB.aAX (.agg 17)):=Zz
theorem DM:aE Tryz.prog 180=some (LB.ContainsFunc (.agg 17) 226):=Zz
theorem DI:aE Tryz.prog 250=some (LB.aAX (.agg 4)):=Zz
theorem DK:aE Tryz.prog 223=some (LB.ContainsFunc (.agg 4) 250):=Zz
theorem o9(g:Nat)(p:Tr→Bool)(t:Tr)(h:Hp)(n:Nat)(hn:h n=some (.arr .leaf [.fn (.func g) [] []]))(hp:∀h,aL Tryz.prog g [t.v] h (.bool (p t))):aL Tryz.prog 224 [t.v, .ptr n .leaf 0 0] h (.bool (!p t)):=by
 refine aJ (fun L=>trivial) fun h' nx hh=>aB L.aVA fun hd=>?_;refine ZK ?_;have hn1:=hh _ _ hn rfl;have hn2:n<nx:=hd _ _ hn1;refine aue (e4 Tr.v.eq_1 hn1 hn2 Tr.aAD) ?_;refine cT rfl (hp _) rfl (aH _) ?_;refine Zn ?_;refine au ?_;exact aC h' (leo hd) ⟨rfl,rfl⟩
theorem uq(g:Nat)(p:Tr→Bool)(o:Own)(l:List Tr)(hl:l.length≤1000000)(h:Hp)(hp:∀(t:Tr) (h:Hp),aL Tryz.prog g [t.v] h (.bool (p t))):aL Tryz.prog 178 [trs o l, .fn (.func g) [] []] h (.bool (l.all p)):=by
 refine aJ (fun L=>trivial) fun h' nx hh=>aB L.aXg fun hd=>?_;refine ZK ?_;have C1:∀h:Hp,h nx=some (.arr .leaf [.fn (.func g) [] []])→aL Tryz.prog 223 [.sl (.agg 4) o (l.map Tr.v), .fn (.func 224) [] [.ptr nx .leaf 0 0]] h (.bool (l.any fun x=> !p x)):=fun h hn=>
  gI Tr.v Tr.aAD DK DI (fun x=> !p x) o l _ _ h (fun t ht=>o9 g p t h nx hn (hp t)) or
 refine au ?_;refine aI (C1 _ (by simp[Ka])) rfl (aH _) ?_;refine Zn ?_;refine au ?_;refine aC h' (leo hd) ⟨?_,rfl⟩;rw[←pr];rfl
theorem pc(g:Nat)(p:Li→Bool)(t:Li)(h:Hp)(n:Nat)(hn:h n=some (.arr .leaf [.fn (.func g) [] []]))(hp:∀h,aL Tryz.prog g [t.v] h (.bool (p t))):aL Tryz.prog 181 [t.v, .ptr n .leaf 0 0] h (.bool (!p t)):=by
 refine aJ (fun L=>trivial) fun h' nx hh=>aB L.aXf fun hd=>?_;refine ZK ?_;have hn1:=hh _ _ hn rfl;have hn2:n<nx:=hd _ _ hn1;obtain⟨T,hT⟩:∃T:List V,T=([.int .i64 t.k, .str t.a.r,trs t.a.o t.a.l, .int .i64 t.op]++t.x.cs++t.y.cs++[.int .i64 t.at_]):=⟨_,rfl⟩;have hv:t.v= .agg T:=by rw[hT];rfl
 have hf:(V.agg T).fits (.agg 17)=true:=by rw[←hv];exact Li.aAD t
 rw[hv];rw[hv] at hp;refine aue (e3 hn1 hn2 hf) ?_;refine cT rfl (hp _) rfl (aH _) ?_;refine Zn ?_;refine au ?_;exact aC h' (leo hd) ⟨rfl,rfl⟩
theorem ur(g:Nat)(p:Li→Bool)(o:Own)(l:List Li)(hl:l.length≤1000000)(h:Hp)(hp:∀t∈l,∀h:Hp,aL Tryz.prog g [t.v] h (.bool (p t))):aL Tryz.prog 119 [.sl (.agg 17) o (l.map Li.v), .fn (.func g) [] []] h (.bool (l.all p)):=by
 refine aJ (fun L=>trivial) fun h' nx hh=>aB L.aYS fun hd=>?_;refine ZK ?_;have C1:∀h:Hp,h nx=some (.arr .leaf [.fn (.func g) [] []])→aL Tryz.prog 180 [.sl (.agg 17) o (l.map Li.v), .fn (.func 181) [] [.ptr nx .leaf 0 0]] h (.bool (l.any fun x=> !p x)):=fun h hn=>
  gI Li.v Li.aAD DM DJ (fun x=> !p x) o l _ _ h (fun t ht=>pc g p t h nx hn (hp t ht)) or
 refine au ?_;refine aI (C1 _ (by simp[Ka])) rfl (aH _) ?_;refine Zn ?_;refine au ?_;refine aC h' (leo hd) ⟨?_,rfl⟩;rw[←pr];rfl
theorem bt(a:Am)(h:Hp):aL Tryz.prog 117 [a.v] h (.bool (mD a)):=by
 refine aJ (fun L=>trivial) fun h' nx hh=>aB L.aYU fun hd=>?_;refine ZK ?_;have C1:=fun h=>yg a.r h;unfold mD;by_cases h1:a.l.length≤6
 ·have C2:∀h:Hp,aL Tryz.prog 178 [.sl (.agg 4) a.o (a.l.map Tr.v), .fn (.func 179) [] []] h (.bool (a.l.all gS)):=fun h=>uq _ gS a.o a.l or h pR;have g1:decide ((a.l.length:Int)≤6)=true:=dct
  (repeat' (first|(with_reducible first|refine stp ?_|refine cD ZM ?_|refine wE (fun _=>?_) (fun _=>?_))|((first|(with_reducible refine nC ?_;first|refine kX rfl ?_ ?_|refine aI (C1 _) rfl (aH _) ?_|refine aI (C2 _) rfl (aH _) ?_|refine Zx ?_)|(with_reducible refine nE ?_;first|refine lC rfl ?_ ?_|refine ZX ?_)|refine Zy ?_)<;>try simp only[Am.v.eq_1,g1,jK,go_sem,reduceIte,jA,jB,jC,jD,reduceCtorEq,jE,jF])|refine ZY ?_|omega))
  all_goals refine aC h' (leo hd) ⟨vb ?_,rfl⟩
  all_goals simp_all
 have g1:decide ((a.l.length:Int)≤6)=false:=dcf
 (repeat' (first|(with_reducible first|refine stp ?_|refine cD ZM ?_|refine wE (fun _=>?_) (fun _=>?_))|((first|(with_reducible refine nC ?_;first|refine kX rfl ?_ ?_|refine aI (C1 _) rfl (aH _) ?_|refine Zx ?_)|(with_reducible refine nE ?_;first|refine lC rfl ?_ ?_|refine ZX ?_)|refine Zy ?_)<;>try simp only[Am.v.eq_1,g1,jK,go_sem,reduceIte,jA,jB,jC,jD,reduceCtorEq,jE,jF])|refine ZY ?_|omega))
 all_goals refine aC h' (leo hd) ⟨vb ?_,rfl⟩
 all_goals simp_all
 all_goals try omega
theorem kn0{α:Type}(l:List α):((l.length:Int)==0)=decide (l=[]):=by cases l<;>simp<;>omega
theorem Li.aAn(l:Li):l.v= .agg [.int .i64 l.k, .str l.a.r,trs l.a.o l.a.l, .int .i64 l.op, .int .i64 l.x.op, .str l.x.t.x, .int .i64 l.x.t.w.k, .int .i64 l.x.t.w.n, .str l.x.t.w.s, .sl (.agg 6) l.x.o (l.x.kids.map Ex.v), .int .i64 l.y.op, .str l.y.t.x, .int .i64 l.y.t.w.k, .int .i64 l.y.t.w.n, .str l.y.t.w.s, .sl (.agg 6) l.y.o (l.y.kids.map Ex.v), .int .i64 l.at_]:=rfl
theorem j0(l:Li)(h:Hp):aL Tryz.prog 91 [l.v] h (.bool (bS l)):=by
 refine aJ (fun L=>trivial) fun h' nx hh=>aB L.aYi fun hd=>?_;rw[Li.aAn];refine ZK ?_;have C1:∀h:Hp,aL Tryz.prog 117 [.agg [.str l.a.r, .sl (.agg 4) l.a.o (l.a.l.map Tr.v)]] h (.bool (mD l.a)):=fun h=>bt l.a h;have N1:∀h:Hp,aL Tryz.prog 141 [.agg [.int .i64 l.x.op, .str l.x.t.x, .int .i64 l.x.t.w.k, .int .i64 l.x.t.w.n, .str l.x.t.w.s, .sl (.agg 6) l.x.o (l.x.kids.map Ex.v)]] h (.bool (pF l.x)):=fun h=>Ex.aAn l.x▸ki l.x h;have N2:∀h:Hp,aL Tryz.prog 141 [.agg [.int .i64 l.y.op, .str l.y.t.x, .int .i64 l.y.t.w.k, .int .i64 l.y.t.w.n, .str l.y.t.w.s, .sl (.agg 6) l.y.o (l.y.kids.map Ex.v)]] h (.bool (pF l.y)):=fun h=>Ex.aAn l.y▸ki l.y h;have X1:∀h:Hp,aL Tryz.prog 142 [.agg [.int .i64 l.x.op, .str l.x.t.x, .int .i64 l.x.t.w.k, .int .i64 l.x.t.w.n, .str l.x.t.w.s, .sl (.agg 6) l.x.o (l.x.kids.map Ex.v)]] h (.bool (sY l.x)):=fun h=>Ex.aAn l.x▸j5 l.x h;have X2:∀h:Hp,aL Tryz.prog 142 [.agg [.int .i64 l.y.op, .str l.y.t.x, .int .i64 l.y.t.w.k, .int .i64 l.y.t.w.n, .str l.y.t.w.s, .sl (.agg 6) l.y.o (l.y.kids.map Ex.v)]] h (.bool (sY l.y)):=fun h=>Ex.aAn l.y▸j5 l.y h;have s0:=wR l.a.r;have k0:=kn0 l.a.l;unfold bS
 (repeat' (first|(with_reducible first|refine stp ?_|refine cD ZM ?_|refine wE (fun _=>?_) (fun _=>?_))|((first|(with_reducible refine nC ?_;first|refine kX rfl ?_ ?_|refine aI (C1 _) rfl (aH _) ?_|refine aI (N1 _) rfl (aH _) ?_|refine aI (N2 _) rfl (aH _) ?_|refine aI (X1 _) rfl (aH _) ?_|refine aI (X2 _) rfl (aH _) ?_|refine Zx ?_)|(with_reducible refine nE ?_;first|refine lC rfl ?_ ?_|refine ZX ?_)|refine Zy ?_)<;>try simp only[s0,k0,jK,go_sem,reduceIte,jA,jB,jC,jD,reduceCtorEq,jE,jF])|refine ZY ?_|omega))
 all_goals refine aC h' (leo hd) ⟨vb ?_,rfl⟩
 all_goals simp_all
 all_goals try omega
theorem zH(r:Ru)(h:Hp):aL Tryz.prog 118 [r.v] h (.bool (F4 r)):=by
 refine aJ (fun L=>trivial) fun h' nx hh=>aB L.aYT fun hd=>?_;obtain⟨⟨hr,ho,hl⟩,g,c,o,b,at_⟩:=r;refine ZK ?_;unfold F4;by_cases hc:0≤c∧c<hl.length
 ·obtain⟨n,rfl⟩:∃n:Nat,c=n:=⟨c.toNat,or⟩;have hn:n<hl.length:=or;have g1:decide ((n:Int)<0)=false:=dcf;have g2:decide ((hl.length:Int)≤(n:Int))=false:=dcf;have g3:decide ((n:Int)≥(hl.length:Int))=false:=dcf;have hg:=aN Tr.v hl n hn;have hD:hl.getD n Aj=hl[n]:=by rw[List.getD_eq_getElem?_getD,List.getElem?_eq_getElem hn];rfl
  have s0:=wR hl[n].x
  (repeat' (first|(with_reducible first|refine stp ?_|refine cD ZM ?_|refine wE (fun _=>?_) (fun _=>?_))|((first|(with_reducible refine nC ?_;first|refine kX rfl ?_ ?_|refine Zx ?_)|(with_reducible refine nE ?_;first|refine lC rfl ?_ ?_|refine ZX ?_)|refine Zy ?_)<;>try simp only[Ru.v.eq_1,g1,g2,g3,hg,hn,s0,Tr.v.eq_1,jK,jG,go_sem,reduceIte,jA,jB,jC,jD,reduceCtorEq,jE,jF])|refine ZY ?_|omega))
  all_goals refine aC h' (leo hd) ⟨vb ?_,rfl⟩
  all_goals simp_all
  all_goals try omega
 rcases(by omega:c<0∨(hl.length:Int)≤c) with hc|hc
 ·have g1:decide (c<0)=true:=dct
  (repeat' (first|(with_reducible first|refine stp ?_|refine cD ZM ?_|refine wE (fun _=>?_) (fun _=>?_))|((first|(with_reducible refine nC ?_;first|refine kX rfl ?_ ?_|refine Zx ?_)|(with_reducible refine nE ?_;first|refine lC rfl ?_ ?_|refine ZX ?_)|refine Zy ?_)<;>try simp only[Ru.v.eq_1,g1,jK,go_sem,reduceIte,jA,jB,jC,jD,reduceCtorEq,jE,jF])|refine ZY ?_|omega))
  all_goals refine aC h' (leo hd) ⟨vb ?_,rfl⟩
  all_goals simp_all
  all_goals try omega
 have g1:decide (c<0)=false:=dcf;have g2:decide ((hl.length:Int)≤c)=true:=dct;have g3:decide (c≥(hl.length:Int))=true:=dct
 (repeat' (first|(with_reducible first|refine stp ?_|refine cD ZM ?_|refine wE (fun _=>?_) (fun _=>?_))|((first|(with_reducible refine nC ?_;first|refine kX rfl ?_ ?_|refine Zx ?_)|(with_reducible refine nE ?_;first|refine lC rfl ?_ ?_|refine ZX ?_)|refine Zy ?_)<;>try simp only[Ru.v.eq_1,g1,g2,g3,jK,go_sem,reduceIte,jA,jB,jC,jD,reduceCtorEq,jE,jF])|refine ZY ?_|omega))
 all_goals refine aC h' (leo hd) ⟨vb ?_,rfl⟩
 all_goals simp_all
 all_goals try omega
theorem xy(r:Ru)(h:Hp):aL Tryz.prog 70 [r.v] h (.bool (dW r)):=by
 refine aJ (fun L=>trivial) fun h' nx hh=>aB L.aYy fun hd=>?_;refine ZK ?_;have C1:∀h:Hp,aL Tryz.prog 117 [.agg [.str r.h.r, .sl (.agg 4) r.h.o (r.h.l.map Tr.v)]] h (.bool (mD r.h)):=fun h=>bt r.h h;have C2:∀h:Hp,aL Tryz.prog 118 [.agg [.str r.h.r, .sl (.agg 4) r.h.o (r.h.l.map Tr.v), .int .i64 r.g, .int .i64 r.c, .sl (.agg 17) r.o (r.b.map Li.v), .int .i64 r.at_]] h (.bool (F4 r)):=fun h=>zH r h;unfold dW;by_cases h1:r.b.length≤8
 ·have C3:∀h:Hp,aL Tryz.prog 119 [.sl (.agg 17) r.o (r.b.map Li.v), .fn (.func 91) [] []] h (.bool (r.b.all bS)):=fun h=>ur _ bS r.o r.b or h (fun t _=>j0 t);have g1:decide ((r.b.length:Int)≤8)=true:=dct
  (repeat' (first|(with_reducible first|refine stp ?_|refine cD ZM ?_|refine wE (fun _=>?_) (fun _=>?_))|((first|(with_reducible refine nC ?_;first|refine kX rfl ?_ ?_|refine aI (C1 _) rfl (aH _) ?_|refine aI (C2 _) rfl (aH _) ?_|refine aI (C3 _) rfl (aH _) ?_|refine Zx ?_)|(with_reducible refine nE ?_;first|refine lC rfl ?_ ?_|refine ZX ?_)|refine Zy ?_)<;>try simp only[Ru.v.eq_1,g1,jK,go_sem,reduceIte,jA,jB,jC,jD,reduceCtorEq,jE,jF])|refine ZY ?_|omega))
  all_goals refine aC h' (leo hd) ⟨vb ?_,rfl⟩
  all_goals simp_all
  all_goals try omega
 have g1:decide ((r.b.length:Int)≤8)=false:=dcf
 (repeat' (first|(with_reducible first|refine stp ?_|refine cD ZM ?_|refine wE (fun _=>?_) (fun _=>?_))|((first|(with_reducible refine nC ?_;first|refine kX rfl ?_ ?_|refine aI (C1 _) rfl (aH _) ?_|refine aI (C2 _) rfl (aH _) ?_|refine Zx ?_)|(with_reducible refine nE ?_;first|refine lC rfl ?_ ?_|refine ZX ?_)|refine Zy ?_)<;>try simp only[Ru.v.eq_1,g1,jK,go_sem,reduceIte,jA,jB,jC,jD,reduceCtorEq,jE,jF])|refine ZY ?_|omega))
 all_goals refine aC h' (leo hd) ⟨vb ?_,rfl⟩
 all_goals simp_all
 all_goals try omega
end Go.Proofs.YtlhedpgobaellaaGreatDoor
