/-
Texts of this proof,one behind the other. No conditions.
-/
import Derived.Test.YtlhedpgobaellaaGreatDoorKfa
open Go.Proofs.YtlhedpgobaellaaGreatDoor.Hp renaming set→Ka,le_refl→Kb
open Bool renaming eq_iff_iff→Kc
open List renaming getElem_append_right→Kd,drop_eq_getElem_cons→Ke,getElem_append_left→Kf,replicate_succ→Ki,replicate_zero→Kj,not_mem_nil→Km,length_cons→Ko,cons_append→Kp,length_nil→Kq,nil_append→Ks,mem_cons→Kt,map_nil→Kw
open Nat renaming le_refl→Kg,zero_le→Kh,lt_or_ge→Kk,reduceAdd→Ku,reduceSub→Kv
open Nat renaming reduceAdd→jA,reduceSub→jB,reduceLT→jC,reduceLeDiff→jD,reduceEqDiff→jE
open Int renaming reduceToNat→jF,toNat_natCast→jG,natCast_add→jH,natCast_one→jI,natCast_zero→jJ
open List renaming length_map→jK,length_cons→jL,nil_append→jQ
set_option linter.all false
set_option maxHeartbeats 8000000
namespace Go.Proofs.YtlhedpgobaellaaGreatDoor
open Go.RowKit Go.Sort
attribute [local irreducible] IntKind.wrap
theorem FH(s:ByteArray)(h:Hp):aM Tryz.prog 194 [.str s] h (.fn (.func 239) [] [.ept .leaf [.str s] 0 0]):=by
 show aM Tryz.prog 194 [.str s] h (.fn (.func 239) [] [.ept .leaf [(V.str s).loose] 0 0]);refine aJ (fun L=>?_) fun h' nx hh=>ji (aB L.aXL fun hd=>?_)
 ·simp[V.loose,V.names,bM]
 refine ZK ?_;refine au ?_;refine aC _ (Kb _) ⟨nx,Kg _,?_,rfl⟩;rfl
noncomputable def av(s:ByteArray):List (List V):=(kN jT s (cO s 0)).1.map (fun t=>[t.v, .nilIface])++
 (match (kN jT s (cO s 0)).2 with
  |none=>[]
  |some a=>[[Tk.v ⟨0,⟨#[]⟩,a⟩, .iface 93 (.int .i64 2)]])
theorem FI(s:ByteArray)(hs:s.size≤4000):yc Tryz.prog 239 [.ept .leaf [.str s] 0 0] Hp.none (av s):=by
 intro yn J D hbJ hnJ hnD hJ h0 nx0 h0J hd0;refine aB L.aWs fun hd=>?_;refine ZK ?_;have C1:=fun h=>k9 s hs 0 (Kh _) h;refine au ?_;obtain⟨T,hT⟩:∃T,kN jT s (cO s 0)=T:=⟨_,rfl⟩;have hV:av s=T.1.map (fun t=>[t.v, .nilIface])++(match T.2 with
  |none=>[]
  |some a=>[[Tk.v ⟨0,⟨#[]⟩,a⟩, .iface 93 (.int .i64 2)]]):=by rw[←hT];rfl
 refine aP (fun p:Nat×Nat=>aD 36 0 [(0, .yld yn),(1, .ept .leaf [.str s] 0 0),(3, .int .i64 p.2)]) (fun p h nx=>p.2≤s.size∧p.1≤T.1.length∧T.1.drop p.1=(kN jT s p.2).1∧T.2=(kN jT s p.2).2∧J p.1 h nx∧aS h nx) (fun p=>s.size-p.2) (0,cO s 0) ⟨th (Kh _),Kh _,by rw[hT];rfl,by rw[hT],hnJ _ _ _ _ h0J (Kg _),hd0.up (Kg _)⟩ (by simp only[WkL,aD,jH,jI,jJ,go_sem,reduceIte,jA,jB,jC,jD,reduceCtorEq,jE,jF]) ?_;rintro⟨i,a⟩ h nx ⟨ha,hi,h1,h2,hj,hdm⟩;simp only at ha hi h1 h2 hj hdm;generalize hQ:aZ _ _ _ _ _=Q0;refine Zk ?_;rcases Kk a s.size with hlt|hge
 ·have hc:decide ((a:Int)<(s.size:Int))=true:=dct;have ha':(a:Int)≤(s.size:Int):=or;have C1:=fun h=>Cj (s.extract a s.size) (by rw[fP];omega) (by rw[fP];omega) h;obtain⟨k,t,hn⟩:∃k t,gK jT (s.extract a s.size)=(k,t):=⟨_,_,rfl⟩;rw[hn] at C1;simp only[Tk.v] at C1;unfold L.aDL;generalize hRC:aT.seq (aT.seq (aT.ops L.aDK) _) _=RC;refine aue (e5 hc hlt ha' (jG a) (Nat.le_of_lt hlt)) ?_;rw[←hRC];refine bS ?_;by_cases h0:k=0
  ·subst h0;rw[fw hlt (by rw[hn])] at h1 h2;have hlen:T.1.length=i:=by
    have:T.1.length≤i:=by simpa using h1
    omega
   have hy:∀NX,nx≤NX→dX Tryz.prog yn [.agg [.int .i64 0, .str ⟨#[]⟩, .int .i64 a], .iface 93 (.int .i64 2)] h NX fun v h' nx'=>((v= .bool true∧J (i+1) h' nx')∨(v= .bool false∧D h' nx'))∧aS h' nx'∧NX≤nx':=fun NX hNX=>by
    have:=(hJ i (by rw[hV,h2];simp;omega) h NX (hnJ i h nx NX hj hNX) (hdm.up hNX)).dom;have e:(av s)[i]'(by rw[hV,h2];simp;omega)=[.agg [.int .i64 0, .str ⟨#[]⟩, .int .i64 a], .iface 93 (.int .i64 2)]:=by
     simp only[hV,h2];rw[Kd (by simp;omega)];simp[hlen,Tk.v]
    rw[e] at this;exact this
   have hk0:((0:Int)==0)=true:=rfl;refine aue hk0 ?_;refine nF rfl ?_;refine((hy _ Zw).weaken (leo hdm)).mono ?_;rintro v h' nx' hnx ⟨hq,aXv,_⟩;unfold bW;have aAh:J (i+1) h' nx'→J (av s).length h' nx':=fun q=>by
    have:(av s).length=i+1:=by rw[hV,h2];simp;omega
    rw[this];exact q
   refine au ?_;rw[←hQ];refine au ?_;exact⟨h',Kb _,hq.imp (fun q=>aAh q.2) (fun q=>q.2)⟩
  have aFU:=sX hlt hn h0;rw[aFU] at h1 h2;have hik:i<T.1.length:=by
   rcases Kk i T.1.length with q|q
   ·exact q
   rw[List.drop_of_length_le q] at h1;cases h1
  have hTi:T.1[i]=⟨k,t,a⟩:=by
   rw[Ke hik] at h1;injection h1
  have hTd:T.1.drop (i+1)=(kN jT s (cO s (a+t.size))).1:=by
   rw[Ke hik] at h1;injection h1
  have htz:=mZ (κ:=jT) (r:=s.extract a s.size) (by rw[hn];exact h0);rw[hn,fP] at htz;dsimp only at htz;have hsk:=th (s:=s) (i:=a+t.size) or;have bCR:=vX s (a+t.size);have hVl:i<(av s).length:=by rw[hV];simp;omega
  have hy:∀NX,nx≤NX→dX Tryz.prog yn [.agg [.int .i64 k, .str t, .int .i64 a], .nilIface] h NX fun v h' nx'=>((v= .bool true∧J (i+1) h' nx')∨(v= .bool false∧D h' nx'))∧aS h' nx'∧NX≤nx':=fun NX hNX=>by
   have:=(hJ i hVl h NX (hnJ i h nx NX hj hNX) (hdm.up hNX)).dom;have e:(av s)[i]'hVl=[.agg [.int .i64 k, .str t, .int .i64 a], .nilIface]:=by
    simp only[hV];rw[Kf (by simpa using hik)];simp[hTi,Tk.v]
   rw[e] at this;exact this
  have hk0:(k==0)=false:=by simpa using h0
  generalize hRQ:mD (lwp Tryz.prog _) _=RQ;refine aue hk0 ?_;rw[←hRQ];refine dA (mO (t:=4) (n:=nx) (k:= .agg 3) (i:=0) (o:=0) (es:=[.agg [.int .i64 k, .str t, .int .i64 a]]) rfl (by simp only[go_sem,reduceIte,jA,jB,jC,jD,reduceCtorEq,jE,jF])) ?_;refine Zn ?_;have C2:=fun h=>k9 s hs (a+t.size) or h;have hw:IntKind.i64.wrap ((a:Int)+(t.size:Int))=((a+t.size:Nat):Int):=wrp;refine au ?_;refine nF rfl ?_;refine((hy _ Zw).weaken ?_).mono ?_
  ·exact leo hdm
  rintro v h' nx' hnx ⟨hq,aXv,_⟩;unfold bW;rcases hq with⟨rfl,hj'⟩|⟨rfl,hD⟩
  ·refine aue hw ?_;rw[←hQ];exact aF (i+1,cO s (a+t.size)) (by simp only;omega) ⟨hsk,hik,hTd,h2,hnJ _ _ _ _ hj' or,aXv.up or⟩ (by simp only[WkL,aD,jH,jI,jJ,go_sem,reduceIte,jA,jB,jC,jD,reduceCtorEq,jE,jF])
  refine au ?_;rw[←hQ];refine au ?_;exact⟨h',Kb _, .inr hD⟩
 have hc:decide ((a:Int)<(s.size:Int))=false:=dcf;refine aue hc ?_;rw[←hQ];refine au ?_;rw[nK hge] at h1 h2;have hlen:(av s).length=i:=by
  rw[hV,h2];have:T.1.length≤i:=by simpa using h1
  simp;omega
 exact⟨h,Kb _, .inl (by rw[hlen];exact hj)⟩
theorem yB{t u v:Nat}{k1 k2 k3:Sh}{R:V→Hp→Nat→Prop}{s:St}(o1:(aW.load k1 (.slot t)).ok s.sl s.h)(o2:(aW.load k2 (.slot u)).ok s.sl s.h)(o3:(aW.load k3 (.slot v)).ok s.sl s.h)(h':Hp)(hle:h'.le s.h)
 (hR:R (.tup [(aW.load k1 (.slot t)).out s.sl s.h,(aW.load k2 (.slot u)).out s.sl s.h,(aW.load k3 (.slot v)).out s.sl s.h]) h' s.nx):rM [.cell t k1, .cell u k2, .cell v k3] R .ret s:=by
 have e3:=fun a b=>aW.aAb (R:=fun x=>∃h',h'.le s.h∧R (iY [a,b,x]) h' s.nx) o3;have e2:=fun a=>aW.aAb (R:=fun x=>(aW.load k3 (.slot v)).sem s.sl s.h fun y=>∃h',h'.le s.h∧R (iY [a,x,y]) h' s.nx) o2;have:=aW.aAb (R:=fun x=>(aW.load k2 (.slot u)).sem s.sl s.h fun y=>(aW.load k3 (.slot v)).sem s.sl s.h fun z=>∃h',h'.le s.h∧R (iY [x,y,z]) h' s.nx) o1 (e2 _ (e3 _ _ ⟨h',hle,hR⟩));exact this
theorem GU{h:Hp}{n0 n:Nat}{o:Own}{es:List V}(a:Acc h n0 o es)(hn:n<n0){b:Blk}:Acc (h.set n b) n0 o es:=by
 rcases a with a|⟨h1,id,h2,h3,h4⟩
 ·exact .inl a
 exact .inr ⟨h1,id,h2,h3,by simp only[Ka];rw[if_neg or];exact h4⟩
def rgF(nx1 a:Nat):List (Nat×Nat×V):=[(0,18, .ptr nx1 (.agg 3) 0 2),(1,19, .int .i64 a),(2,20, .iface 93 (.int .i64 2))]
def rgX(nx nx1:Nat):List (Nat×V):=[(2, .ptr nx .leaf 0 0),(3, .ptr (nx+1) .leaf 0 0),(4, .ptr (nx+2) .leaf 0 0),(6, .ptr nx1 (.agg 3) 0 0),(7, .iface 93 (.int .i64 2))]
def frO{α:Type}(l:List α):Own:=if l.isEmpty=true then .nil else .free
noncomputable def tO(s:ByteArray):V:=
 if 4000<s.size then .tup [.sl (.agg 3) .nil [], .int .i64 4000, .iface 93 (.int .i64 3)]
 else match (kN jT s (cO s 0)).2 with
  |none=> .tup [.sl (.agg 3) (frO (kN jT s (cO s 0)).1) ((kN jT s (cO s 0)).1.map Tk.v), .int .i64 0, .nilIface]
  |some a=> .tup [.sl (.agg 3) .nil [], .int .i64 a, .iface 93 (.int .i64 2)]
theorem u7(s:ByteArray)(L:Nat→Prop):(tO s).names L:=by
 unfold tO;split
 ·simp[V.names,bM]
 split
 ·refine⟨⟨?_,bF (fun x=>Tk.aAN L x) _⟩,trivial,trivial,trivial⟩;intro n e;unfold frO at e;split at e<;>cases e
 simp[V.names,bM]
theorem Bn{κ:ByteArray→Int}{s:ByteArray}:∀(n i:Nat),s.size-i≤n→(kN κ s i).1.length≤s.size-i
 |0,i,h=>by rw[nK or];simp
 |n+1,i,h=>by
  rcases Kk i s.size with hi|hi
  ·obtain⟨k,t,hn⟩:∃k t,gK κ (s.extract i s.size)=(k,t):=⟨_,_,rfl⟩;by_cases h0:k=0
   ·rw[fw hi (by rw[hn];exact h0)];simp
   have hz:=mZ (κ:=κ) (r:=s.extract i s.size) (by rw[hn];exact h0);rw[hn] at hz;dsimp only at hz;rw[sX hi hn h0];have:=vX s (i+t.size);have:=Bn (κ:=κ) (s:=s) n (cO s (i+t.size)) or;simp only[jL];omega
  rw[nK hi];simp
theorem yP(s:ByteArray)(h:Hp):aM Tryz.prog 130 [.str s] h (tO s):=by
 refine gJ (u7 s) fun h' nx hh=>aB L.bAC fun hd=>?_;refine ZK ?_;by_cases hs:4000<s.size
 ·have g1:decide ((4000:Int)<(s.size:Int))=true:=dct;refine aue g1 ?_;refine yB (by simp only[go_sem,reduceIte,jA,jB,jC,jD,reduceCtorEq,jE,jF]) (by simp only[go_sem,reduceIte,jA,jB,jC,jD,reduceCtorEq,jE,jF]) (by simp only[go_sem,reduceIte,jA,jB,jC,jD,reduceCtorEq,jE,jF]) _ (Kb _) ⟨?_,leo hd⟩;simp only[V.aAs,V.loose,go_sem,reduceIte,jA,jB,jC,jD,reduceCtorEq,jE,jF];unfold tO;rw[if_pos hs]
 have g1:decide ((4000:Int)<(s.size:Int))=false:=dcf;have hit:=FI s or;have C1:=fun h=>FH s h;refine aue g1 ?_;obtain⟨T,hT⟩:∃T,kN jT s (cO s 0)=T:=⟨_,rfl⟩;have hTl:T.1.length≤4000:=by
  have:=Bn (κ:=jT) (s:=s) _ (cO s 0) (Kg _);rw[hT] at this;omega
 have hV:av s=T.1.map (fun t=>[t.v, .nilIface])++(match T.2 with
  |none=>[]
  |some a=>[[Tk.v ⟨0,⟨#[]⟩,a⟩, .iface 93 (.int .i64 2)]]):=by rw[←hT];rfl
 have hLV:tO s=match T.2 with
  |none=> .tup [.sl (.agg 3) (frO T.1) (T.1.map Tk.v), .int .i64 0, .nilIface]
  |some a=> .tup [.sl (.agg 3) .nil [], .int .i64 a, .iface 93 (.int .i64 2)]:=by unfold tO;rw[if_neg hs,hT]
 rw[hLV];have aAf:∀n,nx≤n→h' n=none:=fun n hn=>aS.none hd hn;obtain⟨I,hI⟩:∃I:Nat→Hp→Nat→Prop,∀i h nx1,I i h nx1↔(i≤T.1.length∧h'.le h∧h nx=some (.arr .leaf [.sl (.agg 3) .nil []])∧h (nx+1)=some (.arr .leaf [.int .i64 0])∧h (nx+2)=some (.arr .leaf [.nilIface])∧∃o,h (nx+3)=some (.arr .leaf [.sl (.agg 3) o ((T.1.take i).map Tk.v)])∧Acc h (nx+5) o ((T.1.take i).map Tk.v)):=⟨_,fun _ _ _=>Iff.rfl⟩;obtain⟨E,hE⟩:∃E:bJ→Hp→Nat→Prop,∀e h nx1,E e h nx1↔(e= .ret∧h'.le h∧∃a,T.2=some a∧h nx=some (.arr .leaf [.sl (.agg 3) .nil []])∧h (nx+1)=some (.arr .leaf [.int .i64 a])∧h (nx+2)=some (.arr .leaf [.iface 93 (.int .i64 2)])):=⟨_,fun _ _ _=>Iff.rfl⟩;have h0:∀k,(nx+k=nx+4)=(k=4):=fun k=>by rw[eq_iff_iff];omega
 refine nC hit rfl (fun x hx=>?_) (by exact dmo hd) I E ?_ ?_ ?_ ?_ ?_ ?_ ?_ ?_ ?_
 ·rw[hV] at hx;rcases List.mem_append.1 hx with q|q
  ·obtain⟨_,_,rfl⟩:=List.mem_map.1 q;rfl
  split at q
  ·cases q
  obtain rfl:x=_:=by simpa using q
  rfl
 ·exact fun i h nx1 hi=>bH h
 ·exact fun i h n1 n2 hi _=>(hI _ _ _).2 ((hI _ _ _).1 hi)
 ·intro i h n1 b hi;obtain⟨q0,q1,q2,q3,q4,o,q5,q6⟩:=(hI _ _ _).1 hi;refine(hI _ _ _).2 ⟨q0,eH q1 (aAf _ Zm) b,?_,?_,?_,o,?_,?_⟩
  all_goals first
   |exact GU q6 Zm
   |(simp only[Ka];rw[if_neg or];assumption)
 ·exact fun e h n1 n2 hi _=>(hE _ _ _).2 ((hE _ _ _).1 hi)
 ·intro e h n1 b hi;obtain⟨q0,q1,a,q2,q3,q4,q5⟩:=(hE _ _ _).1 hi;refine(hE _ _ _).2 ⟨q0,eH q1 (aAf _ Zm) b,a,q2,?_,?_,?_⟩;all_goals (simp only[Ka];rw[if_neg or];assumption)
 ·refine(hI _ _ _).2 ⟨Kh _,leo hd,by simp only[go_sem,reduceIte,jA,jB,jC,jD,reduceCtorEq,jE,jF],by simp only[go_sem,reduceIte,jA,jB,jC,jD,reduceCtorEq,jE,jF],by simp only[go_sem,reduceIte,jA,jB,jC,jD,reduceCtorEq,jE,jF], .nil,by simp only[List.take_zero,Kw,go_sem,reduceIte,jA,jB,jC,jD,reduceCtorEq,jE,jF], .inl ⟨Zm,rfl⟩⟩
 ·intro i hi h nx1 X hii hnx hX hdm;obtain⟨q0,q1,q2,q3,q4,o,q5,aAO⟩:=(hI _ _ _).1 hii;simp only at hnx hX;have aCC:nx+4<nx1:=hnx;by_cases hik:i<T.1.length
  ·have e:(av s)[i]=[T.1[i].v, .nilIface]:=by
    simp only[hV];rw[Kf (by simpa using hik)];simp
   rw[e];simp only[aAR,go_sem,reduceIte,jA,jB,jC,jD,reduceCtorEq,jE,jF];have hlen:((T.1.take i).map Tk.v).length=i:=by simp;omega
   have aZS:(i+1)*32≤140737488355328:=or;have hft:=Tk.aAC T.1[i];have l0:nx<nx1:=or;have l1:nx+1<nx1:=or;have l2:nx+2<nx1:=or;have l3:nx+3<nx1:=or;generalize hRR:FE (nx+4) X _=RR;refine aue (e8 q2 q3 q4 q5 aCC hlen hX hft) ?_;rw[←hRR];refine lP ?_ fun X'=>?_
   ·simp only[hX,aCC,go_sem,reduceIte,jA,jB,jC,jD,reduceCtorEq,jE,jF]
   generalize hH:Ka (Ka _ nx1 _) (nx+4) X'=H;have hH0:H nx=some (.arr .leaf [.sl (.agg 3) .nil []]):=by rw[←hH];simp only[q2,l0,go_sem,reduceIte,jA,jB,jC,jD,reduceCtorEq,jE,jF]
   have hH1:H (nx+1)=some (.arr .leaf [.int .i64 0]):=by rw[←hH];simp only[q3,l1,go_sem,reduceIte,jA,jB,jC,jD,reduceCtorEq,jE,jF]
   have hH2:H (nx+2)=some (.arr .leaf [.nilIface]):=by rw[←hH];simp only[q4,l2,go_sem,reduceIte,jA,jB,jC,jD,reduceCtorEq,jE,jF]
   have hH3:H (nx+3)=some (.arr .leaf [.sl (.agg 3) o ((T.1.take i).map Tk.v)]):=by rw[←hH];simp only[q5,l3,go_sem,reduceIte,jA,jB,jC,jD,reduceCtorEq,jE,jF]
   have hH4:H (nx+4)=some X':=by rw[←hH];simp only[go_sem,reduceIte,jA,jB,jC,jD,reduceCtorEq,jE,jF]
   have hH5:H nx1=some (.arr (.agg 3) [T.1[i].v]):=by rw[←hH];simp only[aCC,go_sem,reduceIte,jA,jB,jC,jD,reduceCtorEq,jE,jF]
   have hdH:aS H (nx1+2):=by rw[←hH];exact dmo hdm
   have aO9:h'.le H:=by rw[←hH];exact lef hd q1
   have aAh:∀(H2:Hp) (id nx2:Nat) (sl:List V),H2 nx=some (.arr .leaf [.sl (.agg 3) .nil []])→H2 (nx+1)=some (.arr .leaf [.int .i64 0])→H2 (nx+2)=some (.arr .leaf [.nilIface])→H2 (nx+3)=some (.arr .leaf [.sl (.agg 3) (.tok id) ((T.1.take i).map Tk.v++[T.1[i].v])])→H2 (nx+4)=some X'→H2 id=some .tip→nx+5≤id→h'.le H2→mX (nx+4) X' (I (i+1)) E .normal ⟨sl,H2,nx2⟩:=by
    intro H2 id nx2 sl p0 p1 p2 p3 p4 p5 p6 p7;have htk:(T.1.take (i+1)).map Tk.v=(T.1.take i).map Tk.v++[T.1[i].v]:=by
     rw[List.take_succ_eq_append_getElem hik,List.map_append];rfl
    exact fV p4 ((hI _ _ _).2 ⟨hik,p7,p0,p1,p2,_,by rw[htk];exact p3,by rw[htk];exact .inr ⟨Zm,id,p6,rfl,p5⟩⟩)
   generalize aX5:mX (nx+4) X' _ _=RR at aAh⊢;rcases aAO with⟨he,rfl⟩|⟨hne,id,hid,rfl,aXf⟩
   ·rw[he] at hH3 aAh;refine aue (e8 hH0 hH1 hH2 hH3 hH4 hH5 hft (e5 l0 l1 l2 l3 aCC)) ?_;refine aAh _ (nx1+3) _ _ ?_ ?_ ?_ ?_ ?_ ?_ or (lef hd aO9);all_goals simp only[hH0,hH1,hH2,hH3,hH4,l0,l1,l2,l3,aCC,jQ,go_sem,reduceIte,jA,jB,jC,jD,reduceCtorEq,jE,jF]
   have aPn:id<nx1:=hdm _ _ aXf;have hHt:H id=some .tip:=by rw[←hH];simp only[aXf,aPn,show(id=nx+4)=False from fls,go_sem,reduceIte,jA,jB,jC,jD,reduceCtorEq,jE,jF]
   have m3:nx+3<id:=or;have m4:nx+4<id:=or;have m0:nx<id:=or;have m1:nx+1<id:=or;have m2:nx+2<id:=or;refine aue (e8 hH0 hH1 hH2 hH3 hH4 hH5 hft (e13 l0 l1 l2 l3 aCC hHt aPn m3 m4 m0 m1 m2 (e2 hlen aZS))) ?_;refine aAh _ (nx1+3) _ _ ?_ ?_ ?_ ?_ ?_ ?_ or (lef hd aO9);all_goals simp only[hH0,hH1,hH2,hH3,hH4,l0,l1,l2,l3,aCC,m0,m1,m2,m3,m4,aPn,go_sem,reduceIte,jA,jB,jC,jD,reduceCtorEq,jE,jF]
  have aZK:i=T.1.length:=by rw[hV] at hi;simp at hi;cases hT2:T.2<;>simp[hT2] at hi<;>omega
  obtain⟨a,hT2⟩:∃a,T.2=some a:=by
   cases hT2:T.2 with
   |none=>rw[hV,hT2] at hi;simp at hi;omega
   |some a=>exact⟨a,rfl⟩
  have e:(av s)[i]=[Tk.v ⟨0,⟨#[]⟩,a⟩, .iface 93 (.int .i64 2)]:=by
   simp only[hV,hT2];rw[Kd (by simp;omega)];simp[aZK]
  rw[e];simp only[aAR,Tk.v,go_sem,reduceIte,jA,jB,jC,jD,reduceCtorEq,jE,jF];have l0:nx<nx1:=or;have l1:nx+1<nx1:=or;have l2:nx+2<nx1:=or;have l3:nx+3<nx1:=or;generalize hRR:FE (nx+4) X _=RR;refine aue (e7 q2 q3 q4 q5 aCC hX l0) ?_;rw[←hRR];refine lP ?_ fun X'=>?_
  ·simp only[hX,aCC,go_sem,reduceIte,jA,jB,jC,jD,reduceCtorEq,jE,jF]
  generalize hH:Ka (Ka _ nx1 _) (nx+4) X'=H;have hH0:H nx=some (.arr .leaf [.sl (.agg 3) .nil []]):=by rw[←hH];simp only[q2,l0,go_sem,reduceIte,jA,jB,jC,jD,reduceCtorEq,jE,jF]
  have hH1:H (nx+1)=some (.arr .leaf [.int .i64 0]):=by rw[←hH];simp only[q3,l1,go_sem,reduceIte,jA,jB,jC,jD,reduceCtorEq,jE,jF]
  have hH2:H (nx+2)=some (.arr .leaf [.nilIface]):=by rw[←hH];simp only[q4,l2,go_sem,reduceIte,jA,jB,jC,jD,reduceCtorEq,jE,jF]
  have hH4:H (nx+4)=some X':=by rw[←hH];simp only[go_sem,reduceIte,jA,jB,jC,jD,reduceCtorEq,jE,jF]
  have hH5:H nx1=some (.arr (.agg 3) [.agg [.int .i64 0, .str ⟨#[]⟩, .int .i64 a]]):=by rw[←hH];simp only[aCC,go_sem,reduceIte,jA,jB,jC,jD,reduceCtorEq,jE,jF]
  have aO9:h'.le H:=by rw[←hH];exact lef hd q1
  generalize aX5:mX (nx+4) X' _ _=RR;refine aue (e8 hH0 hH1 hH2 hH4 hH5 l0 l1 l2) ?_;refine pE ?_;refine⟨fun D s'=>RG (rgF nx1 a) (rgX nx nx1) 26 D s'.sl∧(∀n,n≠nx+1→n≠nx+2→s'.h n=H n)∧s'.h (nx+1)=some (.arr .leaf [if D 4=true then .int .i64 a else .int .i64 0])∧s'.h (nx+2)=some (.arr .leaf [if D 5=true then .iface 93 (.int .i64 2) else .nilIface]),⟨⟨rfl,?_,fun f _ e=>by cases e⟩,fun _ _ _=>rfl,hH1,hH2⟩,?_,?_⟩
  ·intro p hp;simp only[rgX,Kt,Km,or_false] at hp;rcases hp with rfl|rfl|rfl|rfl|rfl<;>rfl
  ·rintro D k oo aAF ⟨sl,hq,n2⟩ hk hDk aAv hcl ⟨rs,r0,r1,r2⟩;dsimp only at rs r0 r1 r2;have x2:=rs.fx (2, .ptr nx .leaf 0 0) (by simp[rgX]);have x3:=rs.fx (3, .ptr (nx+1) .leaf 0 0) (by simp[rgX]);have x4:=rs.fx (4, .ptr (nx+2) .leaf 0 0) (by simp[rgX]);have x6:=rs.fx (6, .ptr nx1 (.agg 3) 0 0) (by simp[rgX]);have x7:=rs.fx (7, .iface 93 (.int .i64 2)) (by simp[rgX]);have y:∀f∈rgF nx1 a,f.1∈aAF→sl.getD f.2.1 V.undef=f.2.2:=fun f hf hd=>rs.dn f hf (aAv _ hd);have g0:hq nx=some (.arr .leaf [.sl (.agg 3) .nil []]):=by rw[r0 nx or or];exact hH0
   have g5:hq nx1=some (.arr (.agg 3) [.agg [.int .i64 0, .str ⟨#[]⟩, .int .i64 a]]):=by rw[r0 nx1 or or];exact hH5
   dsimp only at x2 x3 x4 x6 x7;rcases k with _|_|_|_|_|_|k;all_goals first|(injection hk with hk;injection hk with p1 p2;subst p1;subst p2)|skip
   all_goals simp only[rgF,Kt,Km,or_false,forall_eq_or_imp,forall_eq,jE,reduceCtorEq,false_implies,implies_true,true_or,or_true,true_implies,and_true,true_and] at y
   all_goals simp only[aY,LOp.run,LOp.sem,aW.sem,aK.ev,bL,x2,x3,x4,x6,x7,y,g0,g5]
   ·exact⟨rs.slot 0 18 _ ZM (by simp[rgF]) (by simp[rgX]),r0,r1,r2⟩
   ·exact⟨trivial,Zm,by simp[cA],rs.slot 1 19 (.int .i64 a) ZM (by simp[rgF]) (by simp[rgX]),r0,r1,r2⟩
   ·exact⟨rs.slot 2 20 _ ZM (by simp[rgF]) (by simp[rgX]),r0,r1,r2⟩
   ·refine⟨trivial,Zm,rfl,rfl,rs.none 3 (by simp[rgF]),fun n q1 q2=>?_,?_,?_⟩
    ·simp only[Ka];split
     ·rename_i e;subst e;rw[hH0];rfl
     exact r0 n q1 q2
    ·simp only[Ka];rw[if_neg or];exact r1
    simp only[Ka];rw[if_neg or];exact r2
   ·rw[r1];refine⟨rfl,Zm,rfl,rfl,rs.none 4 (by simp[rgF]),fun n q1 q2=>?_,?_,?_⟩
    ·simp only[Ka];rw[if_neg q1];exact r0 n q1 q2
    ·rw[show D 4=false from hDk];simp only[Ka,if_true];rfl
    simp only[Ka];rw[if_neg or];exact r2
   ·rw[r2];refine⟨rfl,Zm,rfl,rfl,rs.none 5 (by simp[rgF]),fun n q1 q2=>?_,?_,?_⟩
    ·simp only[Ka];rw[if_neg q2];exact r0 n q1 q2
    ·simp only[Ka];rw[if_neg or];exact r1
    rw[show D 5=false from hDk];simp only[Ka,if_true];rfl
   simp[L.aCX] at hk
  rintro D ⟨sl,H9,n9⟩ hD ⟨rs,r0,r1,r2⟩;dsimp only at rs r0 r1 r2;rw[if_pos (hD 4 (by simp[L.aCX]))] at r1;rw[if_pos (hD 5 (by simp[L.aCX]))] at r2;unfold L.aDH;refine au ?_;rw[←aX5];refine zg (by dsimp only;rw[r0 _ or or];exact hH4) ((hE _ _ _).2 ⟨rfl,fun n b hb=>?_,a,hT2,?_,r1,r2⟩)
  ·have hn:n<nx:=hd n b hb;dsimp only;rw[r0 n or or];exact aO9 n b hb
  dsimp only;rw[r0 _ or or];exact hH0
 ·intro h nx1 hii hnx hdm;obtain⟨q0,q1,q2,q3,q4,o,q5,aAO⟩:=(hI _ _ _).1 hii;simp only at hnx;have hT2:T.2=none:=by
   cases hT2:T.2 with
   |none=>rfl
   |some a=>exfalso;rw[hV,hT2] at q0;simp at q0;omega
  have hlx:(av s).length=T.1.length:=by rw[hV,hT2];simp
  rw[hlx,List.take_length] at q5 aAO;refine aue (e4 q2 q3 q4 q5) ?_;refine yB (by simp only[q2,q3,q4,q5,go_sem,reduceIte,jA,jB,jC,jD,reduceCtorEq,jE,jF]) (by simp only[q2,q3,q4,q5,go_sem,reduceIte,jA,jB,jC,jD,reduceCtorEq,jE,jF]) (by simp only[q2,q3,q4,q5,go_sem,reduceIte,jA,jB,jC,jD,reduceCtorEq,jE,jF]) _ (Kb _) ⟨?_,?_⟩
  ·simp only[hT2,q2,q3,q4,q5,V.aAs,List.map_cons,Kw,aAO.loose,frO,List.isEmpty_map,go_sem,reduceIte,jA,jB,jC,jD,reduceCtorEq,jE,jF];cases T.1<;>rfl
  exact lef hd (lU q1 (aAf (nx+4) or))
 intro e h nx1 hee hnx hdm hc;obtain⟨rfl,q1,a,q2,q3,q4,q5⟩:=(hE _ _ _).1 hee;simp only at hnx;refine au ?_;refine yB (by simp only[q3,q4,q5,go_sem,reduceIte,jA,jB,jC,jD,reduceCtorEq,jE,jF]) (by simp only[q3,q4,q5,go_sem,reduceIte,jA,jB,jC,jD,reduceCtorEq,jE,jF]) (by simp only[q3,q4,q5,go_sem,reduceIte,jA,jB,jC,jD,reduceCtorEq,jE,jF]) _ (Kb _) ⟨?_,?_⟩
 ·simp only[q2,q3,q4,q5,V.aAs,V.loose,go_sem,reduceIte,jA,jB,jC,jD,reduceCtorEq,jE,jF]
 exact lU q1 (aAf _ Zm)
end Go.Proofs.YtlhedpgobaellaaGreatDoor
namespace Go.Proofs.YtlhedpgobaellaaGreatDoor
open Go.RowKit Go.Sort
attribute [local irreducible] IntKind.wrap
instance:DecidableEq Tk:=fun a b=>decidable_of_iff (a.k=b.k∧a.t=b.t∧a.a=b.a) ⟨fun⟨h1,h2,h3⟩=>by cases a;cases b;simp only at h1 h2 h3;rw[h1,h2,h3],fun h=>by rw[h];exact⟨rfl,rfl,rfl⟩⟩
noncomputable def C7(k:Int)(s:ByteArray):Bool:=decide (s.size≤4000∧kN jT s (cO s 0)=([⟨k,s,0⟩],none))
theorem E5(s:ByteArray):C7 3 s=BN s:=by
 rw[Kc];unfold C7;rw[decide_eq_true_eq,Ga A8];exact⟨fun h=>h.2,fun h=>⟨by have:=(of_decide_eq_true h).2.1;omega,h⟩⟩
theorem E6(s:ByteArray):C7 2 s=Ej s:=by
 rw[Kc];unfold C7;rw[decide_eq_true_eq,Gb A8];exact⟨fun h=>h.2,fun h=>⟨by have:=(of_decide_eq_true (of_decide_eq_true h).1).2.1;omega,h⟩⟩
theorem GY{k:Int}{s:ByteArray}{t:Tk}:veq (.plain (.agg 3) [.int, .str, .int]) t.v (.agg [.int .i64 k, .str s, .int .i64 0])=some (decide (t=⟨k,s,0⟩)):=by
 obtain⟨k',s',a⟩:=t;have e:veq (.plain (.agg 3) [.int, .str, .int]) (Tk.v ⟨k',s',a⟩) (.agg [.int .i64 k, .str s, .int .i64 0])=some ((k'==k)&&((s'.toList==s.toList)&&((a:Int)==0))):=rfl;rw[e,dV];congr 1;rw[Kc];simp
theorem jo(s:ByteArray)(h:Hp):aM Tryz.prog 225 [.str s] h (.bool (BN s)):=by
 refine aJ (fun L=>trivial) fun h' nx hh=>aB L.aNd fun hd=>?_;simp only[Ko,Kq,Ku,Kv,Ki,Kj,Kp,Ks,V.undef];rw[←E5];have C0:=fun h=>yP s h;unfold tO at C0;unfold C7;by_cases h1:4000<s.size
 ·rw[if_pos h1] at C0;have C1:=C0;refine au ?_;refine aC h' (leo hd) ⟨?_,rfl⟩;first|rfl|(rw[decide_eq_false or];rfl)
 rw[if_neg h1] at C0;obtain⟨T,hT⟩:∃T,kN jT s (cO s 0)=T:=⟨_,rfl⟩;rw[hT] at C0⊢;obtain⟨l,b⟩:=T;have h2:s.size≤4000:=or;cases b with
 |some a=>
  have C1:∀h,aM Tryz.prog 130 [.str s] h (.tup [.sl (.agg 3) .nil [], .int .i64 a, .iface 93 (.int .i64 2)]):=C0;refine au ?_;refine aC h' (leo hd) ⟨?_,rfl⟩;first|rfl|(rw[decide_eq_false Zm];rfl)
 |none=>
  match l with
  | []=>
   have C1:∀h,aM Tryz.prog 130 [.str s] h (.tup [.sl (.agg 3) .nil [], .int .i64 0, .nilIface]):=C0;have hk:(((0:Nat):Int)==1)=false:=rfl;refine aue hk ?_;refine aC h' (leo hd) ⟨?_,rfl⟩;first|rfl|(rw[decide_eq_false Zm];rfl)
  | [t]=>
   have C1:∀h,aM Tryz.prog 130 [.str s] h (.tup [.sl (.agg 3) .free [t.v], .int .i64 0, .nilIface]):=C0;have hv:=GY (k:=3) (s:=s) (t:=t);have hk:(((1:Nat):Int)==1)=true:=rfl;have hk':(((0+1:Nat):Int)==1)=true:=rfl;refine aue (e4 hv (Tk.aAC t) hk hk') ?_;refine aC h' (leo hd) ⟨vb ?_,rfl⟩;simp[h2]
  |t::u::r=>
   have C1:∀h,aM Tryz.prog 130 [.str s] h (.tup [.sl (.agg 3) .free (t.v::u.v::r.map Tk.v), .int .i64 0, .nilIface]):=C0;obtain⟨q,hq⟩:∃q,r.map Tk.v=q:=⟨_,rfl⟩;rw[hq] at C1;have hk:(((q.length+1+1:Nat):Int)==1)=false:=bqf;have hk':((q.length:Int)+1+1==1)=false:=bqf;refine aue (e2 hk hk') ?_;refine aC h' (leo hd) ⟨?_,rfl⟩;first|rfl|(rw[decide_eq_false Zm];rfl)
theorem zn(s:ByteArray)(h:Hp):aM Tryz.prog 177 [.str s] h (.bool (Ej s)):=by
 refine aJ (fun L=>trivial) fun h' nx hh=>aB L.aZo fun hd=>?_;simp only[Ko,Kq,Ku,Kv,Ki,Kj,Kp,Ks,V.undef];rw[←E6];have C0:=fun h=>yP s h;unfold tO at C0;unfold C7;by_cases h1:4000<s.size
 ·rw[if_pos h1] at C0;have C1:=C0;refine au ?_;refine aC h' (leo hd) ⟨?_,rfl⟩;first|rfl|(rw[decide_eq_false or];rfl)
 rw[if_neg h1] at C0;obtain⟨T,hT⟩:∃T,kN jT s (cO s 0)=T:=⟨_,rfl⟩;rw[hT] at C0⊢;obtain⟨l,b⟩:=T;have h2:s.size≤4000:=or;cases b with
 |some a=>
  have C1:∀h,aM Tryz.prog 130 [.str s] h (.tup [.sl (.agg 3) .nil [], .int .i64 a, .iface 93 (.int .i64 2)]):=C0;refine au ?_;refine aC h' (leo hd) ⟨?_,rfl⟩;first|rfl|(rw[decide_eq_false Zm];rfl)
 |none=>
  match l with
  | []=>
   have C1:∀h,aM Tryz.prog 130 [.str s] h (.tup [.sl (.agg 3) .nil [], .int .i64 0, .nilIface]):=C0;have hk:(((0:Nat):Int)==1)=false:=rfl;refine aue hk ?_;refine aC h' (leo hd) ⟨?_,rfl⟩;first|rfl|(rw[decide_eq_false Zm];rfl)
  | [t]=>
   have C1:∀h,aM Tryz.prog 130 [.str s] h (.tup [.sl (.agg 3) .free [t.v], .int .i64 0, .nilIface]):=C0;have hv:=GY (k:=2) (s:=s) (t:=t);have hk:(((1:Nat):Int)==1)=true:=rfl;have hk':(((0+1:Nat):Int)==1)=true:=rfl;refine aue (e4 hv (Tk.aAC t) hk hk') ?_;refine aC h' (leo hd) ⟨vb ?_,rfl⟩;simp[h2]
  |t::u::r=>
   have C1:∀h,aM Tryz.prog 130 [.str s] h (.tup [.sl (.agg 3) .free (t.v::u.v::r.map Tk.v), .int .i64 0, .nilIface]):=C0;obtain⟨q,hq⟩:∃q,r.map Tk.v=q:=⟨_,rfl⟩;rw[hq] at C1;have hk:(((q.length+1+1:Nat):Int)==1)=false:=bqf;have hk':((q.length:Int)+1+1==1)=false:=bqf;refine aue (e2 hk hk') ?_;refine aC h' (leo hd) ⟨?_,rfl⟩;first|rfl|(rw[decide_eq_false Zm];rfl)
end Go.Proofs.YtlhedpgobaellaaGreatDoor
namespace Go.Proofs.YtlhedpgobaellaaGreatDoor
open Go.RowKit Go.Sort
attribute [local irreducible] IntKind.wrap
theorem vT(s:ByteArray):(s.toList==(⟨#[]⟩:ByteArray).toList)=decide (s.size=0):=by
 rw[dV];congr 1;rw[eq_iff_iff];exact⟨fun e=>by rw[e];rfl,fun e=>by cases hs:s with|mk d=>rw[hs] at e;simp only[ByteArray.size] at e;rw[Array.eq_empty_of_size_eq_zero e]⟩
theorem BJ(w:Vl):veq (.plain (.agg 3) [.int, .int, .str]) (.agg [.int .i64 w.k, .int .i64 w.n, .str w.s]) (.agg [.int .i64 0, .int .i64 0, .str ⟨#[]⟩])=some (yf w):=by
 have e:veq (.plain (.agg 3) [.int, .int, .str]) (.agg [.int .i64 w.k, .int .i64 w.n, .str w.s]) (.agg [.int .i64 0, .int .i64 0, .str ⟨#[]⟩])=some ((w.k==0)&&((w.n==0)&&(w.s.toList==(⟨#[]⟩:ByteArray).toList))):=rfl;rw[e,vT];congr 1;rw[Kc];unfold yf;simp
theorem xS(t:Tr):veq (.plain (.agg 4) [.str, .int, .int, .str]) (.agg [.str t.x, .int .i64 t.w.k, .int .i64 t.w.n, .str t.w.s]) (.agg [.str ⟨#[]⟩, .int .i64 0, .int .i64 0, .str ⟨#[]⟩])=some (rA t):=by
 have e:veq (.plain (.agg 4) [.str, .int, .int, .str]) (.agg [.str t.x, .int .i64 t.w.k, .int .i64 t.w.n, .str t.w.s]) (.agg [.str ⟨#[]⟩, .int .i64 0, .int .i64 0, .str ⟨#[]⟩])=some ((t.x.toList==(⟨#[]⟩:ByteArray).toList)&&((t.w.k==0)&&((t.w.n==0)&&(t.w.s.toList==(⟨#[]⟩:ByteArray).toList)))):=rfl;rw[e,vT,vT];congr 1;rw[Kc];unfold rA;simp
theorem rE(t:Tr)(h:Hp):aM Tryz.prog 179 [t.v] h (.bool (iK t)):=by
 refine aJ (fun L=>trivial) fun h' nx hh=>aB L.aX8 fun hd=>?_;refine ZK ?_;have C1:∀h,aM Tryz.prog 94 [.agg [.int .i64 t.w.k, .int .i64 t.w.n, .str t.w.s]] h (.bool (bU t.w)):=fun h=>iP t.w h;have C2:=fun h=>jo t.x h;have hz:=BJ t.w;have h0:=vT t.x;unfold iK;by_cases h1:t.x.size=0
 ·have g1:decide (t.x.size=0)=true:=dct;refine aue (e3 Tr.v.eq_1 h0 g1) ?_;refine aC h' (leo hd) ⟨?_,rfl⟩;rw[if_pos h1];rfl
 have g1:decide (t.x.size=0)=false:=dcf;rw[if_neg h1];cases h2:BN t.x with
 |true=>
  rw[h2] at C2;refine aue (e4 Tr.v.eq_1 h0 g1 hz) ?_;refine aC h' (leo hd) ⟨?_,rfl⟩;rfl
 |false=>
  rw[h2] at C2;refine aue (e4 Tr.v.eq_1 h0 g1 hz) ?_;refine aC h' (leo hd) ⟨?_,rfl⟩;rfl
theorem mh(e:Ex)(h:Hp):aM Tryz.prog 141 [e.v] h (.bool (qQ e)):=by
 refine aJ (fun L=>trivial) fun h' nx hh=>aB L.aZr fun hd=>?_;obtain⟨op,t,o,ks⟩:=e;rw[Ex.aAq];refine ZK ?_;have hz:=xS t;unfold qQ;by_cases h1:op=0
 ·have g1:(op==0)=true:=bqt;cases h2:rA t with
  |true=>
   rw[h2] at hz;cases ks with
   |nil=>
    have hk:(((0:Nat):Int)==0)=true:=rfl;refine aue (e8 Ex.cs.eq_1 Ex.op.eq_1 Ex.t.eq_1 Ex.o.eq_1 Ex.kids.eq_1 g1 hz hk) ?_;refine aC h' (leo hd) ⟨?_,rfl⟩;simp[h1,h2,Ex.op,Ex.kids,Ex.t]
   |cons a r=>
    obtain⟨q,hq⟩:∃q,r.map Ex.v=q:=⟨_,rfl⟩;have hm:(a::r).map Ex.v=a.v::q:=by rw[←hq];rfl
    have hk:(((q.length+1:Nat):Int)==0)=false:=bqf;have hk':((q.length:Int)+1==0)=false:=bqf;refine aue (e10 Ex.cs.eq_1 Ex.op.eq_1 Ex.t.eq_1 Ex.o.eq_1 Ex.kids.eq_1 g1 hz hk hk' hm) ?_;refine aC h' (leo hd) ⟨?_,rfl⟩;simp[h1,h2,Ex.op,Ex.kids,Ex.t]
  |false=>
   rw[h2] at hz;refine aue (e7 Ex.cs.eq_1 Ex.op.eq_1 Ex.t.eq_1 Ex.o.eq_1 Ex.kids.eq_1 g1 hz) ?_;refine aC h' (leo hd) ⟨?_,rfl⟩;simp[h1,h2,Ex.op,Ex.kids,Ex.t]
 have g1:(op==0)=false:=bqf;refine aue (e6 Ex.cs.eq_1 Ex.op.eq_1 Ex.t.eq_1 Ex.o.eq_1 Ex.kids.eq_1 g1) ?_;refine aC h' (leo hd) ⟨?_,rfl⟩;simp[h1,Ex.op,Ex.kids,Ex.t]
theorem kl0(l:List Ex):((l.length:Int)==0)=decide (l=[]):=by cases l<;>simp<;>omega
theorem kl2(l:List Ex):((l.length:Int) != 2)=decide (l.length≠2):=by
 rw[Kc];simp;omega
theorem vi{a b:Int}(h:a=b):V.int .i64 a=V.int .i64 b:=by rw[h]
theorem Az(n:Nat)(op:Int)(t:Tr)(o:Own)(ks:List Ex)(h:ks.length≠2):fD (n+1) (.mk op t o ks)=if op=0∧ks=[]∧iK t=true then 0 else-1:=by
 unfold fD;match ks,h with
 | [],_=>rfl
 | [a],_=>rfl
 | [a,b],h=>exact absurd rfl h
 |a::b::c::r,_=>rfl
theorem GG(n:Nat)(op:Int)(t:Tr)(o:Own)(a b:Ex):fD (n+1) (.mk op t o [a,b])=if 1≤op∧op≤3∧rA t=true then (if fD n a<0∨fD n b<0 then-1 else 1+am true (fD n a) (fD n b)) else-1:=by
 conv=>lhs;unfold fD
 rw[if_neg Zm]
theorem Du:∀(n:Nat) (hn:n≤100) (e:Ex) (h:Hp),aM Tryz.prog 204 [e.v, .int .i64 n] h (.int .i64 (fD n e)):=by
 intro n;induction n with
 |zero=>
  intro hn e h;refine aJ (fun L=>trivial) fun h' nx hh=>aB L.aGI fun hd=>?_;obtain⟨op,t,o,ks⟩:=e;rw[Ex.aAq];refine ZK ?_;have hz:=xS t;have k0:=kl0 ks;have k2:=kl2 ks;have hn0:(((0:Nat):Int)==0)=true:=rfl;have C1:∀h,aM Tryz.prog 179 [.agg [.str t.x, .int .i64 t.w.k, .int .i64 t.w.n, .str t.w.s]] h (.bool (iK t)):=fun h=>rE t h;unfold fD
  (repeat' (first|(with_reducible first|refine stp ?_|refine cQ ZM ?_|refine xH (fun _=>?_) (fun _=>?_))|((first|(with_reducible refine qD ?_;first|refine nG rfl ?_ ?_|refine aH (C1 _) rfl (aI _) ?_|refine Zx ?_)|(with_reducible refine qI ?_;first|refine nP rfl ?_ ?_|refine ZX ?_)|refine Zy ?_)<;>try simp only[Ex.cs.eq_1,Ex.op.eq_1,Ex.t.eq_1,Ex.o.eq_1,Ex.kids.eq_1,hz,k0,k2,hn0,jK,go_sem,reduceIte,jA,jB,jC,jD,reduceCtorEq,jE,jF])|refine ZY ?_|omega))
  all_goals refine aC h' (leo hd) ⟨vi ?_,rfl⟩
  all_goals simp_all
 |succ n ih=>
  intro hn e h;refine aJ (fun L=>trivial) fun h' nx hh=>aB L.aGI fun hd=>?_;obtain⟨op,t,o,ks⟩:=e;rw[Ex.aAq];refine ZK ?_;have hz:=xS t;have k0:=kl0 ks;have k2:=kl2 ks;have hn0:(((n+1:Nat):Int)==0)=false:=bqf;have hn1:((n:Int)+1==0)=false:=bqf;have C1:∀h,aM Tryz.prog 179 [.agg [.str t.x, .int .i64 t.w.k, .int .i64 t.w.n, .str t.w.s]] h (.bool (iK t)):=fun h=>rE t h;have hw:IntKind.i64.wrap (((n+1:Nat):Int)-1)=(n:Int):=wrp;have hw':IntKind.i64.wrap ((n:Int)+1-1)=(n:Int):=wrp;by_cases hk:ks.length=2
  ·obtain⟨a,b,rfl⟩:∃a b,ks=[a,b]:=by
    match ks,hk with
    | [a,b],_=>exact⟨a,b,rfl⟩
   rw[GG];have D1:=fun h=>ih or a h;have D2:=fun h=>ih or b h;have ha:=Ex.aAC a;have hb:=Ex.aAC b;have hm: [a,b].map Ex.v=[a.v,b.v]:=rfl;have hl:(((0+1+1:Nat):Int)==0)=false:=rfl;have hl2:(((0+1+1:Nat):Int) != 2)=false:=rfl;have hg1:=pL n a;have hg2:=pL n b;have hws:IntKind.i64.wrap (1+am true (fD n a) (fD n b))=1+am true (fD n a) (fD n b):=by
    unfold am;rw[if_pos rfl];split<;>exact wrp
   (repeat' (first|(with_reducible first|refine stp ?_|refine cQ ZM ?_|refine xH (fun _=>?_) (fun _=>?_))|((first|(with_reducible refine qD ?_;first|refine nG rfl ?_ ?_|refine aH (C1 _) rfl (aI _) ?_|refine Zx ?_)|(with_reducible refine qI ?_;first|refine nP rfl ?_ ?_|refine bR (D1 _) rfl (bH _) ?_|refine bR (D2 _) rfl (bH _) ?_|refine ZX ?_)|refine Zy ?_)<;>try simp only[Ex.cs.eq_1,Ex.op.eq_1,Ex.t.eq_1,Ex.o.eq_1,Ex.kids.eq_1,hz,hm,ha,hb,hl,hl2,hn0,hn1,hw,hw',hws,go_sem,reduceIte,jA,jB,jC,jD,reduceCtorEq,jE,jF])|refine ZY ?_|omega))
   all_goals refine aC h' (leo hd) ⟨vi ?_,rfl⟩
   all_goals try simp_all
   all_goals try (intros;omega)
  rw[Az _ _ _ _ _ hk];have k2':((ks.length:Int) != 2)=true:=bnt
  (repeat' (first|(with_reducible first|refine stp ?_|refine cQ ZM ?_|refine xH (fun _=>?_) (fun _=>?_))|((first|(with_reducible refine qD ?_;first|refine nG rfl ?_ ?_|refine aH (C1 _) rfl (aI _) ?_|refine Zx ?_)|(with_reducible refine qI ?_;first|refine nP rfl ?_ ?_|refine ZX ?_)|refine Zy ?_)<;>try simp only[Ex.cs.eq_1,Ex.op.eq_1,Ex.t.eq_1,Ex.o.eq_1,Ex.kids.eq_1,hz,k0,k2',hn0,hn1,jK,go_sem,reduceIte,jA,jB,jC,jD,reduceCtorEq,jE,jF])|refine ZY ?_|omega))
  all_goals refine aC h' (leo hd) ⟨vi ?_,rfl⟩
  all_goals simp_all
theorem l9(e:Ex)(h:Hp):aM Tryz.prog 142 [e.v] h (.bool (uV e)):=by
 refine aJ (fun L=>trivial) fun h' nx hh=>aB L.aYB fun hd=>?_;have he:=Ex.aAq e;have C1:∀h,aM Tryz.prog 204 [.agg e.cs, .int .i64 20] h (.int .i64 (fD 20 e)):=fun h=>he▸Du 20 or e h;rw[he];refine ZK ?_;refine aue Ex.cs.eq_1 ?_;refine aC h' (leo hd) ⟨vb ?_,rfl⟩;have:=yY 20 e;unfold uV;rw[←this];simp
theorem rk{α:Type}(p:α→Bool)(l:List α):(!l.any fun x=> !p x)=l.all p:=by
 induction l with
 |nil=>rfl
 |cons a r ih=>simp only[List.any_cons,List.all_cons,Bool.not_or,ih,Bool.not_not]
theorem EI:aE Tryz.prog 226=some (LB.aAX (.agg 17)):=Zz
theorem EK:aE Tryz.prog 180=some (LB.ContainsFunc (.agg 17) 226):=Zz
theorem EH:aE Tryz.prog 250=some (LB.aAX (.agg 4)):=Zz
theorem EJ:aE Tryz.prog 223=some (LB.ContainsFunc (.agg 4) 250):=Zz
theorem qs(g:Nat)(p:Tr→Bool)(t:Tr)(h:Hp)(n:Nat)(hn:h n=some (.arr .leaf [.fn (.func g) [] []]))(hp:∀h,aM Tryz.prog g [t.v] h (.bool (p t))):aM Tryz.prog 224 [t.v, .ptr n .leaf 0 0] h (.bool (!p t)):=by
 refine aJ (fun L=>trivial) fun h' nx hh=>aB L.aW8 fun hd=>?_;refine ZK ?_;have hn1:=hh _ _ hn rfl;have hn2:n<nx:=hd _ _ hn1;refine aue (e4 Tr.v.eq_1 hn1 hn2 Tr.aAC) ?_;refine eA rfl (hp _) rfl (aI _) ?_;refine Zn ?_;refine au ?_;exact aC h' (leo hd) ⟨rfl,rfl⟩
theorem wn(g:Nat)(p:Tr→Bool)(o:Own)(l:List Tr)(hl:l.length≤1000000)(h:Hp)(hp:∀(t:Tr) (h:Hp),aM Tryz.prog g [t.v] h (.bool (p t))):aM Tryz.prog 178 [trs o l, .fn (.func g) [] []] h (.bool (l.all p)):=by
 refine aJ (fun L=>trivial) fun h' nx hh=>aB L.aZn fun hd=>?_;refine ZK ?_;have C1:∀h:Hp,h nx=some (.arr .leaf [.fn (.func g) [] []])→aM Tryz.prog 223 [.sl (.agg 4) o (l.map Tr.v), .fn (.func 224) [] [.ptr nx .leaf 0 0]] h (.bool (l.any fun x=> !p x)):=fun h hn=>
  gU Tr.v Tr.aAC EJ EH (fun x=> !p x) o l _ _ h (fun t ht=>qs g p t h nx hn (hp t)) or
 refine au ?_;refine aH (C1 _ (by simp[Ka])) rfl (aI _) ?_;refine Zn ?_;refine au ?_;refine aC h' (leo hd) ⟨?_,rfl⟩;rw[←rk];rfl
theorem qt(g:Nat)(p:Li→Bool)(t:Li)(h:Hp)(n:Nat)(hn:h n=some (.arr .leaf [.fn (.func g) [] []]))(hp:∀h,aM Tryz.prog g [t.v] h (.bool (p t))):aM Tryz.prog 181 [t.v, .ptr n .leaf 0 0] h (.bool (!p t)):=by
 refine aJ (fun L=>trivial) fun h' nx hh=>aB L.aXX fun hd=>?_;refine ZK ?_;have hn1:=hh _ _ hn rfl;have hn2:n<nx:=hd _ _ hn1;obtain⟨T,hT⟩:∃T:List V,T=([.int .i64 t.k, .str t.a.r,trs t.a.o t.a.l, .int .i64 t.op]++t.x.cs++t.y.cs++[.int .i64 t.at_]):=⟨_,rfl⟩;have hv:t.v= .agg T:=by rw[hT];rfl
 have hf:(V.agg T).fits (.agg 17)=true:=by rw[←hv];exact Li.aAC t
 rw[hv];rw[hv] at hp;refine aue (e3 hn1 hn2 hf) ?_;refine eA rfl (hp _) rfl (aI _) ?_;refine Zn ?_;refine au ?_;exact aC h' (leo hd) ⟨rfl,rfl⟩
theorem wo(g:Nat)(p:Li→Bool)(o:Own)(l:List Li)(hl:l.length≤1000000)(h:Hp)(hp:∀t∈l,∀h:Hp,aM Tryz.prog g [t.v] h (.bool (p t))):aM Tryz.prog 119 [.sl (.agg 17) o (l.map Li.v), .fn (.func g) [] []] h (.bool (l.all p)):=by
 refine aJ (fun L=>trivial) fun h' nx hh=>aB L.bAZ fun hd=>?_;refine ZK ?_;have C1:∀h:Hp,h nx=some (.arr .leaf [.fn (.func g) [] []])→aM Tryz.prog 180 [.sl (.agg 17) o (l.map Li.v), .fn (.func 181) [] [.ptr nx .leaf 0 0]] h (.bool (l.any fun x=> !p x)):=fun h hn=>
  gU Li.v Li.aAC EK EI (fun x=> !p x) o l _ _ h (fun t ht=>qt g p t h nx hn (hp t ht)) or
 refine au ?_;refine aH (C1 _ (by simp[Ka])) rfl (aI _) ?_;refine Zn ?_;refine au ?_;refine aC h' (leo hd) ⟨?_,rfl⟩;rw[←rk];rfl
theorem dz(a:Am)(h:Hp):aM Tryz.prog 117 [a.v] h (.bool (mU a)):=by
 refine aJ (fun L=>trivial) fun h' nx hh=>aB L.bAb fun hd=>?_;refine ZK ?_;have C1:=fun h=>zn a.r h;unfold mU;by_cases h1:a.l.length≤6
 ·have C2:∀h:Hp,aM Tryz.prog 178 [.sl (.agg 4) a.o (a.l.map Tr.v), .fn (.func 179) [] []] h (.bool (a.l.all iK)):=fun h=>wn _ iK a.o a.l or h rE;have g1:decide ((a.l.length:Int)≤6)=true:=dct
  (repeat' (first|(with_reducible first|refine stp ?_|refine cQ ZM ?_|refine xH (fun _=>?_) (fun _=>?_))|((first|(with_reducible refine qD ?_;first|refine nG rfl ?_ ?_|refine aH (C1 _) rfl (aI _) ?_|refine aH (C2 _) rfl (aI _) ?_|refine Zx ?_)|(with_reducible refine qI ?_;first|refine nP rfl ?_ ?_|refine ZX ?_)|refine Zy ?_)<;>try simp only[Am.v.eq_1,g1,jK,go_sem,reduceIte,jA,jB,jC,jD,reduceCtorEq,jE,jF])|refine ZY ?_|omega))
  all_goals refine aC h' (leo hd) ⟨vb ?_,rfl⟩
  all_goals simp_all
 have g1:decide ((a.l.length:Int)≤6)=false:=dcf
 (repeat' (first|(with_reducible first|refine stp ?_|refine cQ ZM ?_|refine xH (fun _=>?_) (fun _=>?_))|((first|(with_reducible refine qD ?_;first|refine nG rfl ?_ ?_|refine aH (C1 _) rfl (aI _) ?_|refine Zx ?_)|(with_reducible refine qI ?_;first|refine nP rfl ?_ ?_|refine ZX ?_)|refine Zy ?_)<;>try simp only[Am.v.eq_1,g1,jK,go_sem,reduceIte,jA,jB,jC,jD,reduceCtorEq,jE,jF])|refine ZY ?_|omega))
 all_goals refine aC h' (leo hd) ⟨vb ?_,rfl⟩
 all_goals simp_all
 all_goals try omega
theorem kn0{α:Type}(l:List α):((l.length:Int)==0)=decide (l=[]):=by cases l<;>simp<;>omega
theorem Li.aAq(l:Li):l.v= .agg [.int .i64 l.k, .str l.a.r,trs l.a.o l.a.l, .int .i64 l.op, .int .i64 l.x.op, .str l.x.t.x, .int .i64 l.x.t.w.k, .int .i64 l.x.t.w.n, .str l.x.t.w.s, .sl (.agg 6) l.x.o (l.x.kids.map Ex.v), .int .i64 l.y.op, .str l.y.t.x, .int .i64 l.y.t.w.k, .int .i64 l.y.t.w.n, .str l.y.t.w.s, .sl (.agg 6) l.y.o (l.y.kids.map Ex.v), .int .i64 l.at_]:=rfl
theorem l8(l:Li)(h:Hp):aM Tryz.prog 91 [l.v] h (.bool (bO l)):=by
 refine aJ (fun L=>trivial) fun h' nx hh=>aB L.bAp fun hd=>?_;rw[Li.aAq];refine ZK ?_;have C1:∀h:Hp,aM Tryz.prog 117 [.agg [.str l.a.r, .sl (.agg 4) l.a.o (l.a.l.map Tr.v)]] h (.bool (mU l.a)):=fun h=>dz l.a h;have N1:∀h:Hp,aM Tryz.prog 141 [.agg [.int .i64 l.x.op, .str l.x.t.x, .int .i64 l.x.t.w.k, .int .i64 l.x.t.w.n, .str l.x.t.w.s, .sl (.agg 6) l.x.o (l.x.kids.map Ex.v)]] h (.bool (qQ l.x)):=fun h=>Ex.aAq l.x▸mh l.x h;have N2:∀h:Hp,aM Tryz.prog 141 [.agg [.int .i64 l.y.op, .str l.y.t.x, .int .i64 l.y.t.w.k, .int .i64 l.y.t.w.n, .str l.y.t.w.s, .sl (.agg 6) l.y.o (l.y.kids.map Ex.v)]] h (.bool (qQ l.y)):=fun h=>Ex.aAq l.y▸mh l.y h;have X1:∀h:Hp,aM Tryz.prog 142 [.agg [.int .i64 l.x.op, .str l.x.t.x, .int .i64 l.x.t.w.k, .int .i64 l.x.t.w.n, .str l.x.t.w.s, .sl (.agg 6) l.x.o (l.x.kids.map Ex.v)]] h (.bool (uV l.x)):=fun h=>Ex.aAq l.x▸l9 l.x h;have X2:∀h:Hp,aM Tryz.prog 142 [.agg [.int .i64 l.y.op, .str l.y.t.x, .int .i64 l.y.t.w.k, .int .i64 l.y.t.w.n, .str l.y.t.w.s, .sl (.agg 6) l.y.o (l.y.kids.map Ex.v)]] h (.bool (uV l.y)):=fun h=>Ex.aAq l.y▸l9 l.y h;have s0:=vT l.a.r;have k0:=kn0 l.a.l;unfold bO
 (repeat' (first|(with_reducible first|refine stp ?_|refine cQ ZM ?_|refine xH (fun _=>?_) (fun _=>?_))|((first|(with_reducible refine qD ?_;first|refine nG rfl ?_ ?_|refine aH (C1 _) rfl (aI _) ?_|refine aH (N1 _) rfl (aI _) ?_|refine aH (N2 _) rfl (aI _) ?_|refine aH (X1 _) rfl (aI _) ?_|refine aH (X2 _) rfl (aI _) ?_|refine Zx ?_)|(with_reducible refine qI ?_;first|refine nP rfl ?_ ?_|refine ZX ?_)|refine Zy ?_)<;>try simp only[s0,k0,jK,go_sem,reduceIte,jA,jB,jC,jD,reduceCtorEq,jE,jF])|refine ZY ?_|omega))
 all_goals refine aC h' (leo hd) ⟨vb ?_,rfl⟩
 all_goals simp_all
 all_goals try omega
theorem ba(r:Ru)(h:Hp):aM Tryz.prog 118 [r.v] h (.bool (GS r)):=by
 refine aJ (fun L=>trivial) fun h' nx hh=>aB L.bAa fun hd=>?_;obtain⟨⟨hr,ho,hl⟩,g,c,o,b,at_⟩:=r;refine ZK ?_;unfold GS;by_cases hc:0≤c∧c<hl.length
 ·obtain⟨n,rfl⟩:∃n:Nat,c=n:=⟨c.toNat,or⟩;have hn:n<hl.length:=or;have g1:decide ((n:Int)<0)=false:=dcf;have g2:decide ((hl.length:Int)≤(n:Int))=false:=dcf;have g3:decide ((n:Int)≥(hl.length:Int))=false:=dcf;have hg:=aL Tr.v hl n hn;have hD:hl.getD n AS=hl[n]:=by rw[List.getD_eq_getElem?_getD,List.getElem?_eq_getElem hn];rfl
  have s0:=vT hl[n].x
  (repeat' (first|(with_reducible first|refine stp ?_|refine cQ ZM ?_|refine xH (fun _=>?_) (fun _=>?_))|((first|(with_reducible refine qD ?_;first|refine nG rfl ?_ ?_|refine Zx ?_)|(with_reducible refine qI ?_;first|refine nP rfl ?_ ?_|refine ZX ?_)|refine Zy ?_)<;>try simp only[Ru.v.eq_1,g1,g2,g3,hg,hn,s0,Tr.v.eq_1,jK,jG,go_sem,reduceIte,jA,jB,jC,jD,reduceCtorEq,jE,jF])|refine ZY ?_|omega))
  all_goals refine aC h' (leo hd) ⟨vb ?_,rfl⟩
  all_goals simp_all
  all_goals try omega
 rcases(by omega:c<0∨(hl.length:Int)≤c) with hc|hc
 ·have g1:decide (c<0)=true:=dct
  (repeat' (first|(with_reducible first|refine stp ?_|refine cQ ZM ?_|refine xH (fun _=>?_) (fun _=>?_))|((first|(with_reducible refine qD ?_;first|refine nG rfl ?_ ?_|refine Zx ?_)|(with_reducible refine qI ?_;first|refine nP rfl ?_ ?_|refine ZX ?_)|refine Zy ?_)<;>try simp only[Ru.v.eq_1,g1,jK,go_sem,reduceIte,jA,jB,jC,jD,reduceCtorEq,jE,jF])|refine ZY ?_|omega))
  all_goals refine aC h' (leo hd) ⟨vb ?_,rfl⟩
  all_goals simp_all
  all_goals try omega
 have g1:decide (c<0)=false:=dcf;have g2:decide ((hl.length:Int)≤c)=true:=dct;have g3:decide (c≥(hl.length:Int))=true:=dct
 (repeat' (first|(with_reducible first|refine stp ?_|refine cQ ZM ?_|refine xH (fun _=>?_) (fun _=>?_))|((first|(with_reducible refine qD ?_;first|refine nG rfl ?_ ?_|refine Zx ?_)|(with_reducible refine qI ?_;first|refine nP rfl ?_ ?_|refine ZX ?_)|refine Zy ?_)<;>try simp only[Ru.v.eq_1,g1,g2,g3,jK,go_sem,reduceIte,jA,jB,jC,jD,reduceCtorEq,jE,jF])|refine ZY ?_|omega))
 all_goals refine aC h' (leo hd) ⟨vb ?_,rfl⟩
 all_goals simp_all
 all_goals try omega
theorem dw(r:Ru)(h:Hp):aM Tryz.prog 70 [r.v] h (.bool (dF r)):=by
 refine aJ (fun L=>trivial) fun h' nx hh=>aB L.bBG fun hd=>?_;refine ZK ?_;have C1:∀h:Hp,aM Tryz.prog 117 [.agg [.str r.h.r, .sl (.agg 4) r.h.o (r.h.l.map Tr.v)]] h (.bool (mU r.h)):=fun h=>dz r.h h;have C2:∀h:Hp,aM Tryz.prog 118 [.agg [.str r.h.r, .sl (.agg 4) r.h.o (r.h.l.map Tr.v), .int .i64 r.g, .int .i64 r.c, .sl (.agg 17) r.o (r.b.map Li.v), .int .i64 r.at_]] h (.bool (GS r)):=fun h=>ba r h;unfold dF;by_cases h1:r.b.length≤8
 ·have C3:∀h:Hp,aM Tryz.prog 119 [.sl (.agg 17) r.o (r.b.map Li.v), .fn (.func 91) [] []] h (.bool (r.b.all bO)):=fun h=>wo _ bO r.o r.b or h (fun t _=>l8 t);have g1:decide ((r.b.length:Int)≤8)=true:=dct
  (repeat' (first|(with_reducible first|refine stp ?_|refine cQ ZM ?_|refine xH (fun _=>?_) (fun _=>?_))|((first|(with_reducible refine qD ?_;first|refine nG rfl ?_ ?_|refine aH (C1 _) rfl (aI _) ?_|refine aH (C2 _) rfl (aI _) ?_|refine aH (C3 _) rfl (aI _) ?_|refine Zx ?_)|(with_reducible refine qI ?_;first|refine nP rfl ?_ ?_|refine ZX ?_)|refine Zy ?_)<;>try simp only[Ru.v.eq_1,g1,jK,go_sem,reduceIte,jA,jB,jC,jD,reduceCtorEq,jE,jF])|refine ZY ?_|omega))
  all_goals refine aC h' (leo hd) ⟨vb ?_,rfl⟩
  all_goals simp_all
  all_goals try omega
 have g1:decide ((r.b.length:Int)≤8)=false:=dcf
 (repeat' (first|(with_reducible first|refine stp ?_|refine cQ ZM ?_|refine xH (fun _=>?_) (fun _=>?_))|((first|(with_reducible refine qD ?_;first|refine nG rfl ?_ ?_|refine aH (C1 _) rfl (aI _) ?_|refine aH (C2 _) rfl (aI _) ?_|refine Zx ?_)|(with_reducible refine qI ?_;first|refine nP rfl ?_ ?_|refine ZX ?_)|refine Zy ?_)<;>try simp only[Ru.v.eq_1,g1,jK,go_sem,reduceIte,jA,jB,jC,jD,reduceCtorEq,jE,jF])|refine ZY ?_|omega))
 all_goals refine aC h' (leo hd) ⟨vb ?_,rfl⟩
 all_goals simp_all
 all_goals try omega
end Go.Proofs.YtlhedpgobaellaaGreatDoor
