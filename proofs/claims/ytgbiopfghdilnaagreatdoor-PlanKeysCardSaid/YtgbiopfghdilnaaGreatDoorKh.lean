/-
Texts of this proof,one behind the other. No conditions.
-/
import Derived.Test.YtgbiopfghdilnaaGreatDoorKd
import Derived.Test.YtgbiopfghdilnaaGreatDoorKg
import Derived.Test.YtgbiopfghdilnaaGreatDoorKe
import Derived.Test.YtgbiopfghdilnaaGreatDoorKdb
open Go.Proofs.YtgbiopfghdilnaaGreatDoor.V renaming undef→Ka,loose→Kd,names→Ke
open Go.Proofs.YtgbiopfghdilnaaGreatDoor.Hp renaming set→Kb,le_refl→Kc
open Bool renaming eq_iff_iff→Kf
open List renaming getElem_append_right→Kg,drop_eq_getElem_cons→Kh,getElem_append_left→Ki,replicate_succ→Km,replicate_zero→Ko,not_mem_nil→Kq,length_cons→Ks,cons_append→Kt,length_nil→Ku,nil_append→Kv,mem_cons→Kw,map_nil→Kz
open Nat renaming le_refl→Kj,zero_le→Kk,lt_or_ge→Kp,reduceAdd→Kx,reduceSub→Ky
open Nat renaming reduceAdd→jA,reduceSub→jB,reduceLT→jC,reduceLeDiff→jD,reduceEqDiff→jE
open Int renaming reduceToNat→jF,toNat_natCast→jG,natCast_add→jH,natCast_one→jI,natCast_zero→jJ
open List renaming length_map→jK,length_cons→jL,length_nil→jM,replicate_succ→jN,replicate_zero→jO,cons_append→jP,nil_append→jQ
set_option linter.unusedSimpArgs false
set_option linter.unusedVariables false
set_option linter.unusedSectionVars false
set_option maxHeartbeats 8000000
namespace Go.Proofs.YtgbiopfghdilnaaGreatDoor
open Go.RowKit Go.Sort
attribute [local irreducible] IntKind.wrap
set_option maxHeartbeats 4000000
theorem AA(s:ByteArray)(h:Hp):aM Tryz.prog 159 [.str s] h (.fn (.func 185) [] [.ept .leaf [.str s] 0 0]):=by
 show aM Tryz.prog 159 [.str s] h (.fn (.func 185) [] [.ept .leaf [(V.str s).loose] 0 0]);refine aJ (fun L=>?_) fun h' nx hh=>ah (aB L.aTl fun hd=>?_)
 ·simp[Kd,Ke,bD]
 simp only[jL,jM,jA,jB,jN,jO,jP,jQ,Ka];refine au ?_;refine aC _ (Kc _) ⟨nx,Kj _,?_,rfl⟩;rfl
noncomputable def wD(s:ByteArray):List (List V):=(hP gK s (bY s 0)).1.map (fun t=>[t.v, .nilIface])++
 (match (hP gK s (bY s 0)).2 with
  |none=>[]
  |some a=>[[Tk.v ⟨0,⟨#[]⟩,a⟩, .iface 100 (.int .i64 2)]])
theorem AB(s:ByteArray)(hs:s.size≤4000):AG Tryz.prog 185 [.ept .leaf [.str s] 0 0] Hp.none (wD s):=by
 intro yn J D hbJ hnJ hnD hJ h0 nx0 h0J hd0;refine aB L.aR0 fun hd=>?_;simp only[jL,jM,jA,jB,jN,jO,jP,jQ,Ka];have C1:=fun h=>ct s hs 0 (Kk _) h;refine au ?_;obtain⟨T,hT⟩:∃T,hP gK s (bY s 0)=T:=⟨_,rfl⟩;have hV:wD s=T.1.map (fun t=>[t.v, .nilIface])++(match T.2 with
  |none=>[]
  |some a=>[[Tk.v ⟨0,⟨#[]⟩,a⟩, .iface 100 (.int .i64 2)]]):=by rw[←hT];rfl
 refine aS (fun p:Nat×Nat=>aF 36 0 [(0, .yld yn),(1, .ept .leaf [.str s] 0 0),(3, .int .i64 p.2)]) (fun p h nx=>p.2≤s.size∧p.1≤T.1.length∧T.1.drop p.1=(hP gK s p.2).1∧T.2=(hP gK s p.2).2∧J p.1 h nx∧aW h nx) (fun p=>s.size-p.2) (0,bY s 0) ⟨j1 (Kk _),Kk _,by rw[hT];rfl,by rw[hT],hnJ _ _ _ _ h0J (Kj _),hd0.up (Kj _)⟩ (by simp only[WkL,aF,jH,jI,jJ,go_sem,reduceIte,jA,jB,jC,jD,reduceCtorEq,jE,jF]) ?_;rintro⟨i,a⟩ h nx ⟨ha,hi,h1,h2,hj,hdm⟩;simp only at ha hi h1 h2 hj hdm;generalize hQ:bK _ _ _ _ _=Q0;simp only[aF,go_sem,reduceIte,jA,jB,jC,jD,reduceCtorEq,jE,jF];rcases Kp a s.size with hlt|hge
 ·have hc:decide ((a:Int)<(s.size:Int))=true:=dct;have ha':(a:Int)≤(s.size:Int):=or;have C1:=fun h=>vm (s.extract a s.size) (by rw[eM];omega) (by rw[eM];omega) h;obtain⟨k,t,hn⟩:∃k t,eX gK (s.extract a s.size)=(k,t):=⟨_,_,rfl⟩;rw[hn] at C1;simp only[Tk.v] at C1;unfold L.aC0;generalize hRC:aU.seq (aU.seq (aU.ops L.aCz) _) _=RC;refine aue (e5 hc hlt ha' (jG a) (Nat.le_of_lt hlt)) ?_;rw[←hRC];refine bQ ?_;by_cases h0:k=0
  ·subst h0;rw[yR hlt (by rw[hn])] at h1 h2;have hlen:T.1.length=i:=by
    have:T.1.length≤i:=by simpa using h1
    omega
   have hy:∀NX,nx≤NX→cY Tryz.prog yn [.agg [.int .i64 0, .str ⟨#[]⟩, .int .i64 a], .iface 100 (.int .i64 2)] h NX fun v h' nx'=>((v= .bool true∧J (i+1) h' nx')∨(v= .bool false∧D h' nx'))∧aW h' nx'∧NX≤nx':=fun NX hNX=>by
    have:=(hJ i (by rw[hV,h2];simp;omega) h NX (hnJ i h nx NX hj hNX) (hdm.up hNX)).dom;have e:(wD s)[i]'(by rw[hV,h2];simp;omega)=[.agg [.int .i64 0, .str ⟨#[]⟩, .int .i64 a], .iface 100 (.int .i64 2)]:=by
     simp only[hV,h2];rw[Kg (by simp;omega)];simp[hlen,Tk.v]
    rw[e] at this;exact this
   have hk0:((0:Int)==0)=true:=rfl;refine aue hk0 ?_;refine nB rfl ?_;refine((hy _ Zw).weaken (leo hdm)).mono ?_;rintro v h' nx' hnx ⟨hq,aSR,_⟩;unfold cN;have aAp:J (i+1) h' nx'→J (wD s).length h' nx':=fun q=>by
    have:(wD s).length=i+1:=by rw[hV,h2];simp;omega
    rw[this];exact q
   refine au ?_;rw[←hQ];refine au ?_;exact⟨h',Kc _,hq.imp (fun q=>aAp q.2) (fun q=>q.2)⟩
  have aMz:=pM hlt hn h0;rw[aMz] at h1 h2;have hik:i<T.1.length:=by
   rcases Kp i T.1.length with q|q
   ·exact q
   rw[List.drop_of_length_le q] at h1;cases h1
  have hTi:T.1[i]=⟨k,t,a⟩:=by
   rw[Kh hik] at h1;injection h1
  have hTd:T.1.drop (i+1)=(hP gK s (bY s (a+t.size))).1:=by
   rw[Kh hik] at h1;injection h1
  have htz:=kJ (κ:=gK) (r:=s.extract a s.size) (by rw[hn];exact h0);rw[hn,eM] at htz;dsimp only at htz;have hsk:=j1 (s:=s) (i:=a+t.size) or;have aVt:=rM s (a+t.size);have hVl:i<(wD s).length:=by rw[hV];simp;omega
  have hy:∀NX,nx≤NX→cY Tryz.prog yn [.agg [.int .i64 k, .str t, .int .i64 a], .nilIface] h NX fun v h' nx'=>((v= .bool true∧J (i+1) h' nx')∨(v= .bool false∧D h' nx'))∧aW h' nx'∧NX≤nx':=fun NX hNX=>by
   have:=(hJ i hVl h NX (hnJ i h nx NX hj hNX) (hdm.up hNX)).dom;have e:(wD s)[i]'hVl=[.agg [.int .i64 k, .str t, .int .i64 a], .nilIface]:=by
    simp only[hV];rw[Ki (by simpa using hik)];simp[hTi,Tk.v]
   rw[e] at this;exact this
  have hk0:(k==0)=false:=by simpa using h0
  generalize hRQ:lP (lwp Tryz.prog _) _=RQ;refine aue hk0 ?_;rw[←hRQ];refine fF (xH (t:=4) (n:=nx) (k:= .agg 3) (i:=0) (o:=0) (es:=[.agg [.int .i64 k, .str t, .int .i64 a]]) rfl (by simp only[go_sem,reduceIte,jA,jB,jC,jD,reduceCtorEq,jE,jF])) ?_;refine Zn ?_;have C2:=fun h=>ct s hs (a+t.size) or h;have hw:IntKind.i64.wrap ((a:Int)+(t.size:Int))=((a+t.size:Nat):Int):=wrp;refine au ?_;refine nB rfl ?_;refine((hy _ Zw).weaken ?_).mono ?_
  ·exact leo hdm
  rintro v h' nx' hnx ⟨hq,aSR,_⟩;unfold cN;rcases hq with⟨rfl,hj'⟩|⟨rfl,hD⟩
  ·refine aue hw ?_;rw[←hQ];exact aG (i+1,bY s (a+t.size)) (by simp only;omega) ⟨hsk,hik,hTd,h2,hnJ _ _ _ _ hj' or,aSR.up or⟩ (by simp only[WkL,aF,jH,jI,jJ,go_sem,reduceIte,jA,jB,jC,jD,reduceCtorEq,jE,jF])
  refine au ?_;rw[←hQ];refine au ?_;exact⟨h',Kc _, .inr hD⟩
 have hc:decide ((a:Int)<(s.size:Int))=false:=dcf;refine aue hc ?_;rw[←hQ];refine au ?_;rw[kQ hge] at h1 h2;have hlen:(wD s).length=i:=by
  rw[hV,h2];have:T.1.length≤i:=by simpa using h1
  simp;omega
 exact⟨h,Kc _, .inl (by rw[hlen];exact hj)⟩
theorem tK{t u v:Nat}{k1 k2 k3:Sh}{R:V→Hp→Nat→Prop}{s:St}(o1:(aR.load k1 (.slot t)).ok s.sl s.h)(o2:(aR.load k2 (.slot u)).ok s.sl s.h)(o3:(aR.load k3 (.slot v)).ok s.sl s.h)(h':Hp)(hle:h'.le s.h)
 (hR:R (.tup [(aR.load k1 (.slot t)).out s.sl s.h,(aR.load k2 (.slot u)).out s.sl s.h,(aR.load k3 (.slot v)).out s.sl s.h]) h' s.nx):rU [.cell t k1, .cell u k2, .cell v k3] R .ret s:=by
 have e3:=fun a b=>aR.aAY (R:=fun x=>∃h',h'.le s.h∧R (gI [a,b,x]) h' s.nx) o3;have e2:=fun a=>aR.aAY (R:=fun x=>(aR.load k3 (.slot v)).sem s.sl s.h fun y=>∃h',h'.le s.h∧R (gI [a,x,y]) h' s.nx) o2;have:=aR.aAY (R:=fun x=>(aR.load k2 (.slot u)).sem s.sl s.h fun y=>(aR.load k3 (.slot v)).sem s.sl s.h fun z=>∃h',h'.le s.h∧R (gI [x,y,z]) h' s.nx) o1 (e2 _ (e3 _ _ ⟨h',hle,hR⟩));exact this
theorem Bt{h:Hp}{n0 n:Nat}{o:Own}{es:List V}(a:Acc h n0 o es)(hn:n<n0){b:Blk}:Acc (h.set n b) n0 o es:=by
 rcases a with a|⟨h1,id,h2,h3,h4⟩
 ·exact .inl a
 exact .inr ⟨h1,id,h2,h3,by simp only[Kb];rw[if_neg or];exact h4⟩
def rgF(nx1 a:Nat):List (Nat×Nat×V):=[(0,18, .ptr nx1 (.agg 3) 0 2),(1,19, .int .i64 a),(2,20, .iface 100 (.int .i64 2))]
def rgX(nx nx1:Nat):List (Nat×V):=[(2, .ptr nx .leaf 0 0),(3, .ptr (nx+1) .leaf 0 0),(4, .ptr (nx+2) .leaf 0 0),(6, .ptr nx1 (.agg 3) 0 0),(7, .iface 100 (.int .i64 2))]
def frO{α:Type}(l:List α):Own:=if l.isEmpty=true then .nil else .free
noncomputable def qC(s:ByteArray):V:=
 if 4000<s.size then .tup [.sl (.agg 3) .nil [], .int .i64 4000, .iface 100 (.int .i64 3)]
 else match (hP gK s (bY s 0)).2 with
  |none=> .tup [.sl (.agg 3) (frO (hP gK s (bY s 0)).1) ((hP gK s (bY s 0)).1.map Tk.v), .int .i64 0, .nilIface]
  |some a=> .tup [.sl (.agg 3) .nil [], .int .i64 a, .iface 100 (.int .i64 2)]
theorem l8(s:ByteArray)(L:Nat→Prop):(qC s).names L:=by
 unfold qC;split
 ·simp[Ke,bD]
 split
 ·refine⟨⟨?_,bB (fun x=>Tk.aAQ L x) _⟩,trivial,trivial,trivial⟩;intro n e;unfold frO at e;split at e<;>cases e
 simp[Ke,bD]
theorem tw{κ:ByteArray→Int}{s:ByteArray}:∀(n i:Nat),s.size-i≤n→(hP κ s i).1.length≤s.size-i
 |0,i,h=>by rw[kQ or];simp
 |n+1,i,h=>by
  rcases Kp i s.size with hi|hi
  ·obtain⟨k,t,hn⟩:∃k t,eX κ (s.extract i s.size)=(k,t):=⟨_,_,rfl⟩;by_cases h0:k=0
   ·rw[yR hi (by rw[hn];exact h0)];simp
   have hz:=kJ (κ:=κ) (r:=s.extract i s.size) (by rw[hn];exact h0);rw[hn] at hz;dsimp only at hz;rw[pM hi hn h0];have:=rM s (i+t.size);have:=tw (κ:=κ) (s:=s) n (bY s (i+t.size)) or;simp only[jL];omega
  rw[kQ hi];simp
theorem tQ(s:ByteArray)(h:Hp):aM Tryz.prog 115 [.str s] h (qC s):=by
 refine dV (l8 s) fun h' nx hh=>aB L.aUP fun hd=>?_;simp only[jL,jM,jA,jB,jN,jO,jP,jQ,Ka];by_cases hs:4000<s.size
 ·have g1:decide ((4000:Int)<(s.size:Int))=true:=dct;refine aue g1 ?_;refine tK (by simp only[go_sem,reduceIte,jA,jB,jC,jD,reduceCtorEq,jE,jF]) (by simp only[go_sem,reduceIte,jA,jB,jC,jD,reduceCtorEq,jE,jF]) (by simp only[go_sem,reduceIte,jA,jB,jC,jD,reduceCtorEq,jE,jF]) _ (Kc _) ⟨?_,leo hd⟩;simp only[V.aAu,Kd,go_sem,reduceIte,jA,jB,jC,jD,reduceCtorEq,jE,jF];unfold qC;rw[if_pos hs]
 have g1:decide ((4000:Int)<(s.size:Int))=false:=dcf;have hit:=AB s or;have C1:=fun h=>AA s h;refine aue g1 ?_;obtain⟨T,hT⟩:∃T,hP gK s (bY s 0)=T:=⟨_,rfl⟩;have hTl:T.1.length≤4000:=by
  have:=tw (κ:=gK) (s:=s) _ (bY s 0) (Kj _);rw[hT] at this;omega
 have hV:wD s=T.1.map (fun t=>[t.v, .nilIface])++(match T.2 with
  |none=>[]
  |some a=>[[Tk.v ⟨0,⟨#[]⟩,a⟩, .iface 100 (.int .i64 2)]]):=by rw[←hT];rfl
 have hLV:qC s=match T.2 with
  |none=> .tup [.sl (.agg 3) (frO T.1) (T.1.map Tk.v), .int .i64 0, .nilIface]
  |some a=> .tup [.sl (.agg 3) .nil [], .int .i64 a, .iface 100 (.int .i64 2)]:=by unfold qC;rw[if_neg hs,hT]
 rw[hLV];have aAc:∀n,nx≤n→h' n=none:=fun n hn=>aW.none hd hn;obtain⟨I,hI⟩:∃I:Nat→Hp→Nat→Prop,∀i h nx1,I i h nx1↔(i≤T.1.length∧h'.le h∧h nx=some (.arr .leaf [.sl (.agg 3) .nil []])∧h (nx+1)=some (.arr .leaf [.int .i64 0])∧h (nx+2)=some (.arr .leaf [.nilIface])∧∃o,h (nx+3)=some (.arr .leaf [.sl (.agg 3) o ((T.1.take i).map Tk.v)])∧Acc h (nx+5) o ((T.1.take i).map Tk.v)):=⟨_,fun _ _ _=>Iff.rfl⟩;obtain⟨E,hE⟩:∃E:bJ→Hp→Nat→Prop,∀e h nx1,E e h nx1↔(e= .ret∧h'.le h∧∃a,T.2=some a∧h nx=some (.arr .leaf [.sl (.agg 3) .nil []])∧h (nx+1)=some (.arr .leaf [.int .i64 a])∧h (nx+2)=some (.arr .leaf [.iface 100 (.int .i64 2)])):=⟨_,fun _ _ _=>Iff.rfl⟩;have h0:∀k,(nx+k=nx+4)=(k=4):=fun k=>by rw[eq_iff_iff];omega
 refine oI hit rfl (fun x hx=>?_) (by exact dmo hd) I E ?_ ?_ ?_ ?_ ?_ ?_ ?_ ?_ ?_
 ·rw[hV] at hx;rcases List.mem_append.1 hx with q|q
  ·obtain⟨_,_,rfl⟩:=List.mem_map.1 q;rfl
  split at q
  ·cases q
  obtain rfl:x=_:=by simpa using q
  rfl
 ·exact fun i h nx1 hi=>aZ h
 ·exact fun i h n1 n2 hi _=>(hI _ _ _).2 ((hI _ _ _).1 hi)
 ·intro i h n1 b hi;obtain⟨q0,q1,q2,q3,q4,o,q5,q6⟩:=(hI _ _ _).1 hi;refine(hI _ _ _).2 ⟨q0,fY q1 (aAc _ Zm) b,?_,?_,?_,o,?_,?_⟩
  all_goals first
   |exact Bt q6 Zm
   |(simp only[Kb];rw[if_neg or];assumption)
 ·exact fun e h n1 n2 hi _=>(hE _ _ _).2 ((hE _ _ _).1 hi)
 ·intro e h n1 b hi;obtain⟨q0,q1,a,q2,q3,q4,q5⟩:=(hE _ _ _).1 hi;refine(hE _ _ _).2 ⟨q0,fY q1 (aAc _ Zm) b,a,q2,?_,?_,?_⟩;all_goals (simp only[Kb];rw[if_neg or];assumption)
 ·refine(hI _ _ _).2 ⟨Kk _,leo hd,by simp only[go_sem,reduceIte,jA,jB,jC,jD,reduceCtorEq,jE,jF],by simp only[go_sem,reduceIte,jA,jB,jC,jD,reduceCtorEq,jE,jF],by simp only[go_sem,reduceIte,jA,jB,jC,jD,reduceCtorEq,jE,jF], .nil,by simp only[List.take_zero,Kz,go_sem,reduceIte,jA,jB,jC,jD,reduceCtorEq,jE,jF], .inl ⟨Zm,rfl⟩⟩
 ·intro i hi h nx1 X hii hnx hX hdm;obtain⟨q0,q1,q2,q3,q4,o,q5,aAz⟩:=(hI _ _ _).1 hii;simp only at hnx hX;have aCm:nx+4<nx1:=hnx;by_cases hik:i<T.1.length
  ·have e:(wD s)[i]=[T.1[i].v, .nilIface]:=by
    simp only[hV];rw[Ki (by simpa using hik)];simp
   rw[e];simp only[aAS,go_sem,reduceIte,jA,jB,jC,jD,reduceCtorEq,jE,jF];have hlen:((T.1.take i).map Tk.v).length=i:=by simp;omega
   have aTP:(i+1)*32≤140737488355328:=or;have hft:=Tk.aAD T.1[i];have l0:nx<nx1:=or;have l1:nx+1<nx1:=or;have l2:nx+2<nx1:=or;have l3:nx+3<nx1:=or;generalize hRR:Av (nx+4) X _=RR;refine aue (e8 q2 q3 q4 q5 aCm hlen hX hft) ?_;rw[←hRR];refine lL ?_ fun X'=>?_
   ·simp only[hX,aCm,go_sem,reduceIte,jA,jB,jC,jD,reduceCtorEq,jE,jF]
   generalize hH:Kb (Kb _ nx1 _) (nx+4) X'=H;have hH0:H nx=some (.arr .leaf [.sl (.agg 3) .nil []]):=by rw[←hH];simp only[q2,l0,go_sem,reduceIte,jA,jB,jC,jD,reduceCtorEq,jE,jF]
   have hH1:H (nx+1)=some (.arr .leaf [.int .i64 0]):=by rw[←hH];simp only[q3,l1,go_sem,reduceIte,jA,jB,jC,jD,reduceCtorEq,jE,jF]
   have hH2:H (nx+2)=some (.arr .leaf [.nilIface]):=by rw[←hH];simp only[q4,l2,go_sem,reduceIte,jA,jB,jC,jD,reduceCtorEq,jE,jF]
   have hH3:H (nx+3)=some (.arr .leaf [.sl (.agg 3) o ((T.1.take i).map Tk.v)]):=by rw[←hH];simp only[q5,l3,go_sem,reduceIte,jA,jB,jC,jD,reduceCtorEq,jE,jF]
   have hH4:H (nx+4)=some X':=by rw[←hH];simp only[go_sem,reduceIte,jA,jB,jC,jD,reduceCtorEq,jE,jF]
   have hH5:H nx1=some (.arr (.agg 3) [T.1[i].v]):=by rw[←hH];simp only[aCm,go_sem,reduceIte,jA,jB,jC,jD,reduceCtorEq,jE,jF]
   have hdH:aW H (nx1+2):=by rw[←hH];exact dmo hdm
   have aMP:h'.le H:=by rw[←hH];exact lef hd q1
   have aAp:∀(H2:Hp) (id nx2:Nat) (sl:List V),H2 nx=some (.arr .leaf [.sl (.agg 3) .nil []])→H2 (nx+1)=some (.arr .leaf [.int .i64 0])→H2 (nx+2)=some (.arr .leaf [.nilIface])→H2 (nx+3)=some (.arr .leaf [.sl (.agg 3) (.tok id) ((T.1.take i).map Tk.v++[T.1[i].v])])→H2 (nx+4)=some X'→H2 id=some .tip→nx+5≤id→h'.le H2→kG (nx+4) X' (I (i+1)) E .normal ⟨sl,H2,nx2⟩:=by
    intro H2 id nx2 sl p0 p1 p2 p3 p4 p5 p6 p7;have htk:(T.1.take (i+1)).map Tk.v=(T.1.take i).map Tk.v++[T.1[i].v]:=by
     rw[List.take_succ_eq_append_getElem hik,List.map_append];rfl
    exact lT p4 ((hI _ _ _).2 ⟨hik,p7,p0,p1,p2,_,by rw[htk];exact p3,by rw[htk];exact .inr ⟨Zm,id,p6,rfl,p5⟩⟩)
   generalize aSW:kG (nx+4) X' _ _=RR at aAp⊢;rcases aAz with⟨he,rfl⟩|⟨hne,id,hid,rfl,aSE⟩
   ·rw[he] at hH3 aAp;refine aue (e8 hH0 hH1 hH2 hH3 hH4 hH5 hft (e5 l0 l1 l2 l3 aCm)) ?_;refine aAp _ (nx1+3) _ _ ?_ ?_ ?_ ?_ ?_ ?_ or (lef hd aMP);all_goals simp only[hH0,hH1,hH2,hH3,hH4,l0,l1,l2,l3,aCm,jQ,go_sem,reduceIte,jA,jB,jC,jD,reduceCtorEq,jE,jF]
   have aMt:id<nx1:=hdm _ _ aSE;have hHt:H id=some .tip:=by rw[←hH];simp only[aSE,aMt,show(id=nx+4)=False from fls,go_sem,reduceIte,jA,jB,jC,jD,reduceCtorEq,jE,jF]
   have m3:nx+3<id:=or;have m4:nx+4<id:=or;have m0:nx<id:=or;have m1:nx+1<id:=or;have m2:nx+2<id:=or;refine aue (e8 hH0 hH1 hH2 hH3 hH4 hH5 hft (e13 l0 l1 l2 l3 aCm hHt aMt m3 m4 m0 m1 m2 (e2 hlen aTP))) ?_;refine aAp _ (nx1+3) _ _ ?_ ?_ ?_ ?_ ?_ ?_ or (lef hd aMP);all_goals simp only[hH0,hH1,hH2,hH3,hH4,l0,l1,l2,l3,aCm,m0,m1,m2,m3,m4,aMt,go_sem,reduceIte,jA,jB,jC,jD,reduceCtorEq,jE,jF]
  have aTH:i=T.1.length:=by rw[hV] at hi;simp at hi;cases hT2:T.2<;>simp[hT2] at hi<;>omega
  obtain⟨a,hT2⟩:∃a,T.2=some a:=by
   cases hT2:T.2 with
   |none=>rw[hV,hT2] at hi;simp at hi;omega
   |some a=>exact⟨a,rfl⟩
  have e:(wD s)[i]=[Tk.v ⟨0,⟨#[]⟩,a⟩, .iface 100 (.int .i64 2)]:=by
   simp only[hV,hT2];rw[Kg (by simp;omega)];simp[aTH]
  rw[e];simp only[aAS,Tk.v,go_sem,reduceIte,jA,jB,jC,jD,reduceCtorEq,jE,jF];have l0:nx<nx1:=or;have l1:nx+1<nx1:=or;have l2:nx+2<nx1:=or;have l3:nx+3<nx1:=or;generalize hRR:Av (nx+4) X _=RR;refine aue (e7 q2 q3 q4 q5 aCm hX l0) ?_;rw[←hRR];refine lL ?_ fun X'=>?_
  ·simp only[hX,aCm,go_sem,reduceIte,jA,jB,jC,jD,reduceCtorEq,jE,jF]
  generalize hH:Kb (Kb _ nx1 _) (nx+4) X'=H;have hH0:H nx=some (.arr .leaf [.sl (.agg 3) .nil []]):=by rw[←hH];simp only[q2,l0,go_sem,reduceIte,jA,jB,jC,jD,reduceCtorEq,jE,jF]
  have hH1:H (nx+1)=some (.arr .leaf [.int .i64 0]):=by rw[←hH];simp only[q3,l1,go_sem,reduceIte,jA,jB,jC,jD,reduceCtorEq,jE,jF]
  have hH2:H (nx+2)=some (.arr .leaf [.nilIface]):=by rw[←hH];simp only[q4,l2,go_sem,reduceIte,jA,jB,jC,jD,reduceCtorEq,jE,jF]
  have hH4:H (nx+4)=some X':=by rw[←hH];simp only[go_sem,reduceIte,jA,jB,jC,jD,reduceCtorEq,jE,jF]
  have hH5:H nx1=some (.arr (.agg 3) [.agg [.int .i64 0, .str ⟨#[]⟩, .int .i64 a]]):=by rw[←hH];simp only[aCm,go_sem,reduceIte,jA,jB,jC,jD,reduceCtorEq,jE,jF]
  have aMP:h'.le H:=by rw[←hH];exact lef hd q1
  generalize aSW:kG (nx+4) X' _ _=RR;refine aue (e8 hH0 hH1 hH2 hH4 hH5 l0 l1 l2) ?_;refine pJ ?_;refine⟨fun D s'=>RG (rgF nx1 a) (rgX nx nx1) 26 D s'.sl∧(∀n,n≠nx+1→n≠nx+2→s'.h n=H n)∧s'.h (nx+1)=some (.arr .leaf [if D 4=true then .int .i64 a else .int .i64 0])∧s'.h (nx+2)=some (.arr .leaf [if D 5=true then .iface 100 (.int .i64 2) else .nilIface]),⟨⟨rfl,?_,fun f _ e=>by cases e⟩,fun _ _ _=>rfl,hH1,hH2⟩,?_,?_⟩
  ·intro p hp;simp only[rgX,Kw,Kq,or_false] at hp;rcases hp with rfl|rfl|rfl|rfl|rfl<;>rfl
  ·rintro D k oo aAF ⟨sl,hq,n2⟩ hk hDk aA4 hcl ⟨rs,r0,r1,r2⟩;dsimp only at rs r0 r1 r2;have x2:=rs.fx (2, .ptr nx .leaf 0 0) (by simp[rgX]);have x3:=rs.fx (3, .ptr (nx+1) .leaf 0 0) (by simp[rgX]);have x4:=rs.fx (4, .ptr (nx+2) .leaf 0 0) (by simp[rgX]);have x6:=rs.fx (6, .ptr nx1 (.agg 3) 0 0) (by simp[rgX]);have x7:=rs.fx (7, .iface 100 (.int .i64 2)) (by simp[rgX]);have y:∀f∈rgF nx1 a,f.1∈aAF→sl.getD f.2.1 Ka=f.2.2:=fun f hf hd=>rs.dn f hf (aA4 _ hd);have g0:hq nx=some (.arr .leaf [.sl (.agg 3) .nil []]):=by rw[r0 nx or or];exact hH0
   have g5:hq nx1=some (.arr (.agg 3) [.agg [.int .i64 0, .str ⟨#[]⟩, .int .i64 a]]):=by rw[r0 nx1 or or];exact hH5
   dsimp only at x2 x3 x4 x6 x7;rcases k with _|_|_|_|_|_|k;all_goals first|(injection hk with hk;injection hk with p1 p2;subst p1;subst p2)|skip
   all_goals simp only[rgF,Kw,Kq,or_false,forall_eq_or_imp,forall_eq,jE,reduceCtorEq,false_implies,implies_true,true_or,or_true,true_implies,and_true,true_and] at y
   all_goals simp only[aT,LOp.run,LOp.sem,aR.sem,aI.ev,bF,x2,x3,x4,x6,x7,y,g0,g5]
   ·exact⟨rs.slot 0 18 _ ZM (by simp[rgF]) (by simp[rgX]),r0,r1,r2⟩
   ·exact⟨trivial,Zm,by simp[bU],rs.slot 1 19 (.int .i64 a) ZM (by simp[rgF]) (by simp[rgX]),r0,r1,r2⟩
   ·exact⟨rs.slot 2 20 _ ZM (by simp[rgF]) (by simp[rgX]),r0,r1,r2⟩
   ·refine⟨trivial,Zm,rfl,rfl,rs.none 3 (by simp[rgF]),fun n q1 q2=>?_,?_,?_⟩
    ·simp only[Kb];split
     ·rename_i e;subst e;rw[hH0];rfl
     exact r0 n q1 q2
    ·simp only[Kb];rw[if_neg or];exact r1
    simp only[Kb];rw[if_neg or];exact r2
   ·rw[r1];refine⟨rfl,Zm,rfl,rfl,rs.none 4 (by simp[rgF]),fun n q1 q2=>?_,?_,?_⟩
    ·simp only[Kb];rw[if_neg q1];exact r0 n q1 q2
    ·rw[show D 4=false from hDk];simp only[Kb,if_true];rfl
    simp only[Kb];rw[if_neg or];exact r2
   ·rw[r2];refine⟨rfl,Zm,rfl,rfl,rs.none 5 (by simp[rgF]),fun n q1 q2=>?_,?_,?_⟩
    ·simp only[Kb];rw[if_neg q2];exact r0 n q1 q2
    ·simp only[Kb];rw[if_neg or];exact r1
    rw[show D 5=false from hDk];simp only[Kb,if_true];rfl
   simp[L.aCD] at hk
  rintro D ⟨sl,H9,n9⟩ hD ⟨rs,r0,r1,r2⟩;dsimp only at rs r0 r1 r2;rw[if_pos (hD 4 (by simp[L.aCD]))] at r1;rw[if_pos (hD 5 (by simp[L.aCD]))] at r2;unfold L.aCw;refine au ?_;rw[←aSW];refine qa (by dsimp only;rw[r0 _ or or];exact hH4) ((hE _ _ _).2 ⟨rfl,fun n b hb=>?_,a,hT2,?_,r1,r2⟩)
  ·have hn:n<nx:=hd n b hb;dsimp only;rw[r0 n or or];exact aMP n b hb
  dsimp only;rw[r0 _ or or];exact hH0
 ·intro h nx1 hii hnx hdm;obtain⟨q0,q1,q2,q3,q4,o,q5,aAz⟩:=(hI _ _ _).1 hii;simp only at hnx;have hT2:T.2=none:=by
   cases hT2:T.2 with
   |none=>rfl
   |some a=>exfalso;rw[hV,hT2] at q0;simp at q0;omega
  have hlx:(wD s).length=T.1.length:=by rw[hV,hT2];simp
  rw[hlx,List.take_length] at q5 aAz;refine aue (e4 q2 q3 q4 q5) ?_;refine tK (by simp only[q2,q3,q4,q5,go_sem,reduceIte,jA,jB,jC,jD,reduceCtorEq,jE,jF]) (by simp only[q2,q3,q4,q5,go_sem,reduceIte,jA,jB,jC,jD,reduceCtorEq,jE,jF]) (by simp only[q2,q3,q4,q5,go_sem,reduceIte,jA,jB,jC,jD,reduceCtorEq,jE,jF]) _ (Kc _) ⟨?_,?_⟩
  ·simp only[hT2,q2,q3,q4,q5,V.aAu,List.map_cons,Kz,aAz.loose,frO,List.isEmpty_map,go_sem,reduceIte,jA,jB,jC,jD,reduceCtorEq,jE,jF];cases T.1<;>rfl
  exact lef hd (nE q1 (aAc (nx+4) or))
 intro e h nx1 hee hnx hdm hc;obtain⟨rfl,q1,a,q2,q3,q4,q5⟩:=(hE _ _ _).1 hee;simp only at hnx;refine au ?_;refine tK (by simp only[q3,q4,q5,go_sem,reduceIte,jA,jB,jC,jD,reduceCtorEq,jE,jF]) (by simp only[q3,q4,q5,go_sem,reduceIte,jA,jB,jC,jD,reduceCtorEq,jE,jF]) (by simp only[q3,q4,q5,go_sem,reduceIte,jA,jB,jC,jD,reduceCtorEq,jE,jF]) _ (Kc _) ⟨?_,?_⟩
 ·simp only[q2,q3,q4,q5,V.aAu,Kd,go_sem,reduceIte,jA,jB,jC,jD,reduceCtorEq,jE,jF]
 exact nE q1 (aAc _ Zm)
end Go.Proofs.YtgbiopfghdilnaaGreatDoor
namespace Go.Proofs.YtgbiopfghdilnaaGreatDoor
open Go.RowKit Go.Sort
attribute [local irreducible] IntKind.wrap
set_option maxHeartbeats 4000000
instance:DecidableEq Tk:=fun a b=>decidable_of_iff (a.k=b.k∧a.t=b.t∧a.a=b.a) ⟨fun⟨h1,h2,h3⟩=>by cases a;cases b;simp only at h1 h2 h3;rw[h1,h2,h3],fun h=>by rw[h];exact⟨rfl,rfl,rfl⟩⟩
noncomputable def wq(k:Int)(s:ByteArray):Bool:=decide (s.size≤4000∧hP gK s (bY s 0)=([⟨k,s,0⟩],none))
theorem zx(s:ByteArray):wq 3 s=ur s:=by
 rw[Kf];unfold wq;rw[decide_eq_true_eq,AU s7];exact⟨fun h=>h.2,fun h=>⟨by have:=(of_decide_eq_true h).2.1;omega,h⟩⟩
theorem zy(s:ByteArray):wq 2 s=yq s:=by
 rw[Kf];unfold wq;rw[decide_eq_true_eq,AV s7];exact⟨fun h=>h.2,fun h=>⟨by have:=(of_decide_eq_true (of_decide_eq_true h).1).2.1;omega,h⟩⟩
theorem Bw{k:Int}{s:ByteArray}{t:Tk}:veq (.plain (.agg 3) [.int, .str, .int]) t.v (.agg [.int .i64 k, .str s, .int .i64 0])=some (decide (t=⟨k,s,0⟩)):=by
 obtain⟨k',s',a⟩:=t;have e:veq (.plain (.agg 3) [.int, .str, .int]) (Tk.v ⟨k',s',a⟩) (.agg [.int .i64 k, .str s, .int .i64 0])=some ((k'==k)&&((s'.toList==s.toList)&&((a:Int)==0))):=rfl;rw[e,eN];congr 1;rw[Kf];simp
theorem ap(s:ByteArray)(h:Hp):aM Tryz.prog 170 [.str s] h (.bool (ur s)):=by
 refine aJ (fun L=>trivial) fun h' nx hh=>aB L.aL3 fun hd=>?_;simp only[Ks,Ku,Kx,Ky,Km,Ko,Kt,Kv,Ka];rw[←zx];have C0:=fun h=>tQ s h;unfold qC at C0;unfold wq;by_cases h1:4000<s.size
 ·rw[if_pos h1] at C0;have C1:=C0;refine au ?_;refine aC h' (leo hd) ⟨?_,rfl⟩;first|rfl|(rw[decide_eq_false or];rfl)
 rw[if_neg h1] at C0;obtain⟨T,hT⟩:∃T,hP gK s (bY s 0)=T:=⟨_,rfl⟩;rw[hT] at C0⊢;obtain⟨l,b⟩:=T;have h2:s.size≤4000:=or;cases b with
 |some a=>
  have C1:∀h,aM Tryz.prog 115 [.str s] h (.tup [.sl (.agg 3) .nil [], .int .i64 a, .iface 100 (.int .i64 2)]):=C0;refine au ?_;refine aC h' (leo hd) ⟨?_,rfl⟩;first|rfl|(rw[decide_eq_false Zm];rfl)
 |none=>
  match l with
  | []=>
   have C1:∀h,aM Tryz.prog 115 [.str s] h (.tup [.sl (.agg 3) .nil [], .int .i64 0, .nilIface]):=C0;have hk:(((0:Nat):Int)==1)=false:=rfl;refine aue hk ?_;refine aC h' (leo hd) ⟨?_,rfl⟩;first|rfl|(rw[decide_eq_false Zm];rfl)
  | [t]=>
   have C1:∀h,aM Tryz.prog 115 [.str s] h (.tup [.sl (.agg 3) .free [t.v], .int .i64 0, .nilIface]):=C0;have hv:=Bw (k:=3) (s:=s) (t:=t);have hk:(((1:Nat):Int)==1)=true:=rfl;have hk':(((0+1:Nat):Int)==1)=true:=rfl;refine aue (e4 hv (Tk.aAD t) hk hk') ?_;refine aC h' (leo hd) ⟨vb ?_,rfl⟩;simp[h2]
  |t::u::r=>
   have C1:∀h,aM Tryz.prog 115 [.str s] h (.tup [.sl (.agg 3) .free (t.v::u.v::r.map Tk.v), .int .i64 0, .nilIface]):=C0;obtain⟨q,hq⟩:∃q,r.map Tk.v=q:=⟨_,rfl⟩;rw[hq] at C1;have hk:(((q.length+1+1:Nat):Int)==1)=false:=bqf;have hk':((q.length:Int)+1+1==1)=false:=bqf;refine aue (e2 hk hk') ?_;refine aC h' (leo hd) ⟨?_,rfl⟩;first|rfl|(rw[decide_eq_false Zm];rfl)
theorem qh(s:ByteArray)(h:Hp):aM Tryz.prog 122 [.str s] h (.bool (yq s)):=by
 refine aJ (fun L=>trivial) fun h' nx hh=>aB L.aUI fun hd=>?_;simp only[Ks,Ku,Kx,Ky,Km,Ko,Kt,Kv,Ka];rw[←zy];have C0:=fun h=>tQ s h;unfold qC at C0;unfold wq;by_cases h1:4000<s.size
 ·rw[if_pos h1] at C0;have C1:=C0;refine au ?_;refine aC h' (leo hd) ⟨?_,rfl⟩;first|rfl|(rw[decide_eq_false or];rfl)
 rw[if_neg h1] at C0;obtain⟨T,hT⟩:∃T,hP gK s (bY s 0)=T:=⟨_,rfl⟩;rw[hT] at C0⊢;obtain⟨l,b⟩:=T;have h2:s.size≤4000:=or;cases b with
 |some a=>
  have C1:∀h,aM Tryz.prog 115 [.str s] h (.tup [.sl (.agg 3) .nil [], .int .i64 a, .iface 100 (.int .i64 2)]):=C0;refine au ?_;refine aC h' (leo hd) ⟨?_,rfl⟩;first|rfl|(rw[decide_eq_false Zm];rfl)
 |none=>
  match l with
  | []=>
   have C1:∀h,aM Tryz.prog 115 [.str s] h (.tup [.sl (.agg 3) .nil [], .int .i64 0, .nilIface]):=C0;have hk:(((0:Nat):Int)==1)=false:=rfl;refine aue hk ?_;refine aC h' (leo hd) ⟨?_,rfl⟩;first|rfl|(rw[decide_eq_false Zm];rfl)
  | [t]=>
   have C1:∀h,aM Tryz.prog 115 [.str s] h (.tup [.sl (.agg 3) .free [t.v], .int .i64 0, .nilIface]):=C0;have hv:=Bw (k:=2) (s:=s) (t:=t);have hk:(((1:Nat):Int)==1)=true:=rfl;have hk':(((0+1:Nat):Int)==1)=true:=rfl;refine aue (e4 hv (Tk.aAD t) hk hk') ?_;refine aC h' (leo hd) ⟨vb ?_,rfl⟩;simp[h2]
  |t::u::r=>
   have C1:∀h,aM Tryz.prog 115 [.str s] h (.tup [.sl (.agg 3) .free (t.v::u.v::r.map Tk.v), .int .i64 0, .nilIface]):=C0;obtain⟨q,hq⟩:∃q,r.map Tk.v=q:=⟨_,rfl⟩;rw[hq] at C1;have hk:(((q.length+1+1:Nat):Int)==1)=false:=bqf;have hk':((q.length:Int)+1+1==1)=false:=bqf;refine aue (e2 hk hk') ?_;refine aC h' (leo hd) ⟨?_,rfl⟩;first|rfl|(rw[decide_eq_false Zm];rfl)
end Go.Proofs.YtgbiopfghdilnaaGreatDoor
namespace Go.Proofs.YtgbiopfghdilnaaGreatDoor
open Go.RowKit Go.Sort
attribute [local irreducible] IntKind.wrap
set_option maxHeartbeats 4000000
theorem rI(s:ByteArray):(s.toList==(⟨#[]⟩:ByteArray).toList)=decide (s.size=0):=by
 rw[eN];congr 1;rw[eq_iff_iff];exact⟨fun e=>by rw[e];rfl,fun e=>by cases hs:s with|mk d=>rw[hs] at e;simp only[ByteArray.size] at e;rw[Array.eq_empty_of_size_eq_zero e]⟩
theorem um(w:Vl):veq (.plain (.agg 3) [.int, .int, .str]) (.agg [.int .i64 w.k, .int .i64 w.n, .str w.s]) (.agg [.int .i64 0, .int .i64 0, .str ⟨#[]⟩])=some (oz w):=by
 have e:veq (.plain (.agg 3) [.int, .int, .str]) (.agg [.int .i64 w.k, .int .i64 w.n, .str w.s]) (.agg [.int .i64 0, .int .i64 0, .str ⟨#[]⟩])=some ((w.k==0)&&((w.n==0)&&(w.s.toList==(⟨#[]⟩:ByteArray).toList))):=rfl;rw[e,rI];congr 1;rw[Kf];unfold oz;simp
theorem tF(t:Tr):veq (.plain (.agg 4) [.str, .int, .int, .str]) (.agg [.str t.x, .int .i64 t.w.k, .int .i64 t.w.n, .str t.w.s]) (.agg [.str ⟨#[]⟩, .int .i64 0, .int .i64 0, .str ⟨#[]⟩])=some (qK t):=by
 have e:veq (.plain (.agg 4) [.str, .int, .int, .str]) (.agg [.str t.x, .int .i64 t.w.k, .int .i64 t.w.n, .str t.w.s]) (.agg [.str ⟨#[]⟩, .int .i64 0, .int .i64 0, .str ⟨#[]⟩])=some ((t.x.toList==(⟨#[]⟩:ByteArray).toList)&&((t.w.k==0)&&((t.w.n==0)&&(t.w.s.toList==(⟨#[]⟩:ByteArray).toList)))):=rfl;rw[e,rI,rI];congr 1;rw[Kf];unfold qK;simp
theorem nX(t:Tr)(h:Hp):aM Tryz.prog 124 [t.v] h (.bool (fV t)):=by
 refine aJ (fun L=>trivial) fun h' nx hh=>aB L.aSd fun hd=>?_;simp only[jL,jM,jA,jB,jN,jO,jP,jQ,Ka];have C1:∀h,aM Tryz.prog 54 [.agg [.int .i64 t.w.k, .int .i64 t.w.n, .str t.w.s]] h (.bool (cC t.w)):=fun h=>gB t.w h;have C2:=fun h=>ap t.x h;have hz:=um t.w;have h0:=rI t.x;unfold fV;by_cases h1:t.x.size=0
 ·have g1:decide (t.x.size=0)=true:=dct;refine aue (e3 Tr.v.eq_1 h0 g1) ?_;refine aC h' (leo hd) ⟨?_,rfl⟩;rw[if_pos h1];rfl
 have g1:decide (t.x.size=0)=false:=dcf;rw[if_neg h1];cases h2:ur t.x with
 |true=>
  rw[h2] at C2;refine aue (e4 Tr.v.eq_1 h0 g1 hz) ?_;refine aC h' (leo hd) ⟨?_,rfl⟩;rfl
 |false=>
  rw[h2] at C2;refine aue (e4 Tr.v.eq_1 h0 g1 hz) ?_;refine aC h' (leo hd) ⟨?_,rfl⟩;rfl
theorem dl(e:Ex)(h:Hp):aM Tryz.prog 127 [e.v] h (.bool (uY e)):=by
 refine aJ (fun L=>trivial) fun h' nx hh=>aB L.aT4 fun hd=>?_;obtain⟨op,t,o,ks⟩:=e;rw[Ex.aAs];simp only[jL,jM,jA,jB,jN,jO,jP,jQ,Ka];have hz:=tF t;unfold uY;by_cases h1:op=0
 ·have g1:(op==0)=true:=bqt;cases h2:qK t with
  |true=>
   rw[h2] at hz;cases ks with
   |nil=>
    have hk:(((0:Nat):Int)==0)=true:=rfl;refine aue (e8 Ex.cs.eq_1 Ex.op.eq_1 Ex.t.eq_1 Ex.o.eq_1 Ex.kids.eq_1 g1 hz hk) ?_;refine aC h' (leo hd) ⟨?_,rfl⟩;simp[h1,h2,Ex.op,Ex.kids,Ex.t]
   |cons a r=>
    obtain⟨q,hq⟩:∃q,r.map Ex.v=q:=⟨_,rfl⟩;have hm:(a::r).map Ex.v=a.v::q:=by rw[←hq];rfl
    have hk:(((q.length+1:Nat):Int)==0)=false:=bqf;have hk':((q.length:Int)+1==0)=false:=bqf;refine aue (e10 Ex.cs.eq_1 Ex.op.eq_1 Ex.t.eq_1 Ex.o.eq_1 Ex.kids.eq_1 g1 hz hk hk' hm) ?_;refine aC h' (leo hd) ⟨?_,rfl⟩;simp[h1,h2,Ex.op,Ex.kids,Ex.t]
  |false=>
   rw[h2] at hz;refine aue (e7 Ex.cs.eq_1 Ex.op.eq_1 Ex.t.eq_1 Ex.o.eq_1 Ex.kids.eq_1 g1 hz) ?_;refine aC h' (leo hd) ⟨?_,rfl⟩;simp[h1,h2,Ex.op,Ex.kids,Ex.t]
 have g1:(op==0)=false:=bqf;refine aue (e6 Ex.cs.eq_1 Ex.op.eq_1 Ex.t.eq_1 Ex.o.eq_1 Ex.kids.eq_1 g1) ?_;refine aC h' (leo hd) ⟨?_,rfl⟩;simp[h1,Ex.op,Ex.kids,Ex.t]
theorem kl0(l:List Ex):((l.length:Int)==0)=decide (l=[]):=by cases l<;>simp<;>omega
theorem kl2(l:List Ex):((l.length:Int) != 2)=decide (l.length≠2):=by
 rw[Kf];simp;omega
theorem vi{a b:Int}(h:a=b):V.int .i64 a=V.int .i64 b:=by rw[h]
theorem ru(n:Nat)(op:Int)(t:Tr)(o:Own)(ks:List Ex)(h:ks.length≠2):eD (n+1) (.mk op t o ks)=if op=0∧ks=[]∧fV t=true then 0 else-1:=by
 unfold eD;match ks,h with
 | [],_=>rfl
 | [a],_=>rfl
 | [a,b],h=>exact absurd rfl h
 |a::b::c::r,_=>rfl
theorem Bi(n:Nat)(op:Int)(t:Tr)(o:Own)(a b:Ex):eD (n+1) (.mk op t o [a,b])=if 1≤op∧op≤3∧qK t=true then (if eD n a<0∨eD n b<0 then-1 else 1+bd true (eD n a) (eD n b)) else-1:=by
 conv=>lhs;unfold eD
 rw[if_neg Zm]
theorem xf:∀(n:Nat) (hn:n≤100) (e:Ex) (h:Hp),aM Tryz.prog 172 [e.v, .int .i64 n] h (.int .i64 (eD n e)):=by
 intro n;induction n with
 |zero=>
  intro hn e h;refine aJ (fun L=>trivial) fun h' nx hh=>aB L.aFW fun hd=>?_;obtain⟨op,t,o,ks⟩:=e;rw[Ex.aAs];simp only[jL,jM,jA,jB,jN,jO,jP,jQ,Ka];have hz:=tF t;have k0:=kl0 ks;have k2:=kl2 ks;have hn0:(((0:Nat):Int)==0)=true:=rfl;have C1:∀h,aM Tryz.prog 124 [.agg [.str t.x, .int .i64 t.w.k, .int .i64 t.w.n, .str t.w.s]] h (.bool (fV t)):=fun h=>nX t h;unfold eD
  (repeat' (first|(with_reducible first|refine stp ?_|refine cA ZM ?_|refine sT (fun _=>?_) (fun _=>?_))|((first|(with_reducible refine nC ?_;first|refine kO rfl ?_ ?_|refine aH (C1 _) rfl (aK _) ?_|refine Zx ?_)|(with_reducible refine nH ?_;first|refine kU rfl ?_ ?_|refine ZX ?_)|refine Zy ?_)<;>try simp only[Ex.cs.eq_1,Ex.op.eq_1,Ex.t.eq_1,Ex.o.eq_1,Ex.kids.eq_1,hz,k0,k2,hn0,jK,go_sem,reduceIte,jA,jB,jC,jD,reduceCtorEq,jE,jF])|refine ZY ?_|omega))
  all_goals refine aC h' (leo hd) ⟨vi ?_,rfl⟩
  all_goals simp_all
 |succ n ih=>
  intro hn e h;refine aJ (fun L=>trivial) fun h' nx hh=>aB L.aFW fun hd=>?_;obtain⟨op,t,o,ks⟩:=e;rw[Ex.aAs];simp only[jL,jM,jA,jB,jN,jO,jP,jQ,Ka];have hz:=tF t;have k0:=kl0 ks;have k2:=kl2 ks;have hn0:(((n+1:Nat):Int)==0)=false:=bqf;have hn1:((n:Int)+1==0)=false:=bqf;have C1:∀h,aM Tryz.prog 124 [.agg [.str t.x, .int .i64 t.w.k, .int .i64 t.w.n, .str t.w.s]] h (.bool (fV t)):=fun h=>nX t h;have hw:IntKind.i64.wrap (((n+1:Nat):Int)-1)=(n:Int):=wrp;have hw':IntKind.i64.wrap ((n:Int)+1-1)=(n:Int):=wrp;by_cases hk:ks.length=2
  ·obtain⟨a,b,rfl⟩:∃a b,ks=[a,b]:=by
    match ks,hk with
    | [a,b],_=>exact⟨a,b,rfl⟩
   rw[Bi];have D1:=fun h=>ih or a h;have D2:=fun h=>ih or b h;have ha:=Ex.aAD a;have hb:=Ex.aAD b;have hm: [a,b].map Ex.v=[a.v,b.v]:=rfl;have hl:(((0+1+1:Nat):Int)==0)=false:=rfl;have hl2:(((0+1+1:Nat):Int) != 2)=false:=rfl;have hg1:=mQ n a;have hg2:=mQ n b;have hws:IntKind.i64.wrap (1+bd true (eD n a) (eD n b))=1+bd true (eD n a) (eD n b):=by
    unfold bd;rw[if_pos rfl];split<;>exact wrp
   (repeat' (first|(with_reducible first|refine stp ?_|refine cA ZM ?_|refine sT (fun _=>?_) (fun _=>?_))|((first|(with_reducible refine nC ?_;first|refine kO rfl ?_ ?_|refine aH (C1 _) rfl (aK _) ?_|refine Zx ?_)|(with_reducible refine nH ?_;first|refine kU rfl ?_ ?_|refine bH (D1 _) rfl (aZ _) ?_|refine bH (D2 _) rfl (aZ _) ?_|refine ZX ?_)|refine Zy ?_)<;>try simp only[Ex.cs.eq_1,Ex.op.eq_1,Ex.t.eq_1,Ex.o.eq_1,Ex.kids.eq_1,hz,hm,ha,hb,hl,hl2,hn0,hn1,hw,hw',hws,go_sem,reduceIte,jA,jB,jC,jD,reduceCtorEq,jE,jF])|refine ZY ?_|omega))
   all_goals refine aC h' (leo hd) ⟨vi ?_,rfl⟩
   all_goals try simp_all
   all_goals try (intros;omega)
  rw[ru _ _ _ _ _ hk];have k2':((ks.length:Int) != 2)=true:=bnt
  (repeat' (first|(with_reducible first|refine stp ?_|refine cA ZM ?_|refine sT (fun _=>?_) (fun _=>?_))|((first|(with_reducible refine nC ?_;first|refine kO rfl ?_ ?_|refine aH (C1 _) rfl (aK _) ?_|refine Zx ?_)|(with_reducible refine nH ?_;first|refine kU rfl ?_ ?_|refine ZX ?_)|refine Zy ?_)<;>try simp only[Ex.cs.eq_1,Ex.op.eq_1,Ex.t.eq_1,Ex.o.eq_1,Ex.kids.eq_1,hz,k0,k2',hn0,hn1,jK,go_sem,reduceIte,jA,jB,jC,jD,reduceCtorEq,jE,jF])|refine ZY ?_|omega))
  all_goals refine aC h' (leo hd) ⟨vi ?_,rfl⟩
  all_goals simp_all
set_option maxHeartbeats 4000000
theorem dc(e:Ex)(h:Hp):aM Tryz.prog 128 [e.v] h (.bool (qP e)):=by
 refine aJ (fun L=>trivial) fun h' nx hh=>aB L.aSc fun hd=>?_;have he:=Ex.aAs e;have C1:∀h,aM Tryz.prog 172 [.agg e.cs, .int .i64 20] h (.int .i64 (eD 20 e)):=fun h=>he▸xf 20 or e h;rw[he];simp only[jL,jM,jA,jB,jN,jO,jP,jQ,Ka];refine aue Ex.cs.eq_1 ?_;refine aC h' (leo hd) ⟨vb ?_,rfl⟩;have:=tZ 20 e;unfold qP;rw[←this];simp
theorem i7{α:Type}(p:α→Bool)(l:List α):(!l.any fun x=> !p x)=l.all p:=by
 induction l with
 |nil=>rfl
 |cons a r ih=>simp only[List.any_cons,List.all_cons,Bool.not_or,ih,Bool.not_not]
theorem zc:aD Tryz.prog 171=some (LB.aAU (.agg 17)):=Zz
theorem ze:aD Tryz.prog 125=some (LB.ContainsFunc (.agg 17) 171):=Zz
theorem zb:aD Tryz.prog 191=some (LB.aAU (.agg 4)):=Zz
theorem zd:aD Tryz.prog 168=some (LB.ContainsFunc (.agg 4) 191):=Zz
theorem im(g:Nat)(p:Tr→Bool)(t:Tr)(h:Hp)(n:Nat)(hn:h n=some (.arr .leaf [.fn (.func g) [] []]))(hp:∀h,aM Tryz.prog g [t.v] h (.bool (p t))):aM Tryz.prog 169 [t.v, .ptr n .leaf 0 0] h (.bool (!p t)):=by
 refine aJ (fun L=>trivial) fun h' nx hh=>aB L.aTc fun hd=>?_;simp only[jL,jM,jA,jB,jN,jO,jP,jQ,Ka];have hn1:=hh _ _ hn rfl;have hn2:n<nx:=hd _ _ hn1;refine aue (e4 Tr.v.eq_1 hn1 hn2 Tr.aAD) ?_;refine fX rfl (hp _) rfl (aK _) ?_;refine Zn ?_;refine au ?_;exact aC h' (leo hd) ⟨rfl,rfl⟩
theorem m7(g:Nat)(p:Tr→Bool)(o:Own)(l:List Tr)(hl:l.length≤1000000)(h:Hp)(hp:∀(t:Tr) (h:Hp),aM Tryz.prog g [t.v] h (.bool (p t))):aM Tryz.prog 123 [trs o l, .fn (.func g) [] []] h (.bool (l.all p)):=by
 refine aJ (fun L=>trivial) fun h' nx hh=>aB L.aT6 fun hd=>?_;simp only[jL,jM,jA,jB,jN,jO,jP,jQ,Ka];have C1:∀h:Hp,h nx=some (.arr .leaf [.fn (.func g) [] []])→aM Tryz.prog 168 [.sl (.agg 4) o (l.map Tr.v), .fn (.func 169) [] [.ptr nx .leaf 0 0]] h (.bool (l.any fun x=> !p x)):=fun h hn=>
  fH Tr.v Tr.aAD zd zb (fun x=> !p x) o l _ _ h (fun t ht=>im g p t h nx hn (hp t)) or
 refine au ?_;refine aH (C1 _ (by simp[Kb])) rfl (aK _) ?_;refine Zn ?_;refine au ?_;refine aC h' (leo hd) ⟨?_,rfl⟩;rw[←i7];rfl
theorem io(g:Nat)(p:Li→Bool)(t:Li)(h:Hp)(n:Nat)(hn:h n=some (.arr .leaf [.fn (.func g) [] []]))(hp:∀h,aM Tryz.prog g [t.v] h (.bool (p t))):aM Tryz.prog 126 [t.v, .ptr n .leaf 0 0] h (.bool (!p t)):=by
 refine aJ (fun L=>trivial) fun h' nx hh=>aB L.aT5 fun hd=>?_;simp only[jL,jM,jA,jB,jN,jO,jP,jQ,Ka];have hn1:=hh _ _ hn rfl;have hn2:n<nx:=hd _ _ hn1;obtain⟨T,hT⟩:∃T:List V,T=([.int .i64 t.k, .str t.a.r,trs t.a.o t.a.l, .int .i64 t.op]++t.x.cs++t.y.cs++[.int .i64 t.at_]):=⟨_,rfl⟩;have hv:t.v= .agg T:=by rw[hT];rfl
 have hf:(V.agg T).fits (.agg 17)=true:=by rw[←hv];exact Li.aAD t
 rw[hv];rw[hv] at hp;refine aue (e3 hn1 hn2 hf) ?_;refine fX rfl (hp _) rfl (aK _) ?_;refine Zn ?_;refine au ?_;exact aC h' (leo hd) ⟨rfl,rfl⟩
theorem na(g:Nat)(p:Li→Bool)(o:Own)(l:List Li)(hl:l.length≤1000000)(h:Hp)(hp:∀t∈l,∀h:Hp,aM Tryz.prog g [t.v] h (.bool (p t))):aM Tryz.prog 78 [.sl (.agg 17) o (l.map Li.v), .fn (.func g) [] []] h (.bool (l.all p)):=by
 refine aJ (fun L=>trivial) fun h' nx hh=>aB L.aUq fun hd=>?_;simp only[jL,jM,jA,jB,jN,jO,jP,jQ,Ka];have C1:∀h:Hp,h nx=some (.arr .leaf [.fn (.func g) [] []])→aM Tryz.prog 125 [.sl (.agg 17) o (l.map Li.v), .fn (.func 126) [] [.ptr nx .leaf 0 0]] h (.bool (l.any fun x=> !p x)):=fun h hn=>
  fH Li.v Li.aAD ze zc (fun x=> !p x) o l _ _ h (fun t ht=>io g p t h nx hn (hp t ht)) or
 refine au ?_;refine aH (C1 _ (by simp[Kb])) rfl (aK _) ?_;refine Zn ?_;refine au ?_;refine aC h' (leo hd) ⟨?_,rfl⟩;rw[←i7];rfl
theorem xU(a:Am)(h:Hp):aM Tryz.prog 76 [a.v] h (.bool (lR a)):=by
 refine aJ (fun L=>trivial) fun h' nx hh=>aB L.aUs fun hd=>?_;simp only[jL,jM,jA,jB,jN,jO,jP,jQ,Ka];have C1:=fun h=>qh a.r h;unfold lR;by_cases h1:a.l.length≤6
 ·have C2:∀h:Hp,aM Tryz.prog 123 [.sl (.agg 4) a.o (a.l.map Tr.v), .fn (.func 124) [] []] h (.bool (a.l.all fV)):=fun h=>m7 _ fV a.o a.l or h nX;have g1:decide ((a.l.length:Int)≤6)=true:=dct
  (repeat' (first|(with_reducible first|refine stp ?_|refine cA ZM ?_|refine sT (fun _=>?_) (fun _=>?_))|((first|(with_reducible refine nC ?_;first|refine kO rfl ?_ ?_|refine aH (C1 _) rfl (aK _) ?_|refine aH (C2 _) rfl (aK _) ?_|refine Zx ?_)|(with_reducible refine nH ?_;first|refine kU rfl ?_ ?_|refine ZX ?_)|refine Zy ?_)<;>try simp only[Am.v.eq_1,g1,jK,go_sem,reduceIte,jA,jB,jC,jD,reduceCtorEq,jE,jF])|refine ZY ?_|omega))
  all_goals refine aC h' (leo hd) ⟨vb ?_,rfl⟩
  all_goals simp_all
 have g1:decide ((a.l.length:Int)≤6)=false:=dcf
 (repeat' (first|(with_reducible first|refine stp ?_|refine cA ZM ?_|refine sT (fun _=>?_) (fun _=>?_))|((first|(with_reducible refine nC ?_;first|refine kO rfl ?_ ?_|refine aH (C1 _) rfl (aK _) ?_|refine Zx ?_)|(with_reducible refine nH ?_;first|refine kU rfl ?_ ?_|refine ZX ?_)|refine Zy ?_)<;>try simp only[Am.v.eq_1,g1,jK,go_sem,reduceIte,jA,jB,jC,jD,reduceCtorEq,jE,jF])|refine ZY ?_|omega))
 all_goals refine aC h' (leo hd) ⟨vb ?_,rfl⟩
 all_goals simp_all
 all_goals try omega
theorem kn0{α:Type}(l:List α):((l.length:Int)==0)=decide (l=[]):=by cases l<;>simp<;>omega
theorem Li.aAs(l:Li):l.v= .agg [.int .i64 l.k, .str l.a.r,trs l.a.o l.a.l, .int .i64 l.op, .int .i64 l.x.op, .str l.x.t.x, .int .i64 l.x.t.w.k, .int .i64 l.x.t.w.n, .str l.x.t.w.s, .sl (.agg 6) l.x.o (l.x.kids.map Ex.v), .int .i64 l.y.op, .str l.y.t.x, .int .i64 l.y.t.w.k, .int .i64 l.y.t.w.n, .str l.y.t.w.s, .sl (.agg 6) l.y.o (l.y.kids.map Ex.v), .int .i64 l.at_]:=rfl
theorem db(l:Li)(h:Hp):aM Tryz.prog 79 [l.v] h (.bool (cF l)):=by
 refine aJ (fun L=>trivial) fun h' nx hh=>aB L.aUp fun hd=>?_;rw[Li.aAs];simp only[jL,jM,jA,jB,jN,jO,jP,jQ,Ka];have C1:∀h:Hp,aM Tryz.prog 76 [.agg [.str l.a.r, .sl (.agg 4) l.a.o (l.a.l.map Tr.v)]] h (.bool (lR l.a)):=fun h=>xU l.a h;have N1:∀h:Hp,aM Tryz.prog 127 [.agg [.int .i64 l.x.op, .str l.x.t.x, .int .i64 l.x.t.w.k, .int .i64 l.x.t.w.n, .str l.x.t.w.s, .sl (.agg 6) l.x.o (l.x.kids.map Ex.v)]] h (.bool (uY l.x)):=fun h=>Ex.aAs l.x▸dl l.x h;have N2:∀h:Hp,aM Tryz.prog 127 [.agg [.int .i64 l.y.op, .str l.y.t.x, .int .i64 l.y.t.w.k, .int .i64 l.y.t.w.n, .str l.y.t.w.s, .sl (.agg 6) l.y.o (l.y.kids.map Ex.v)]] h (.bool (uY l.y)):=fun h=>Ex.aAs l.y▸dl l.y h;have X1:∀h:Hp,aM Tryz.prog 128 [.agg [.int .i64 l.x.op, .str l.x.t.x, .int .i64 l.x.t.w.k, .int .i64 l.x.t.w.n, .str l.x.t.w.s, .sl (.agg 6) l.x.o (l.x.kids.map Ex.v)]] h (.bool (qP l.x)):=fun h=>Ex.aAs l.x▸dc l.x h;have X2:∀h:Hp,aM Tryz.prog 128 [.agg [.int .i64 l.y.op, .str l.y.t.x, .int .i64 l.y.t.w.k, .int .i64 l.y.t.w.n, .str l.y.t.w.s, .sl (.agg 6) l.y.o (l.y.kids.map Ex.v)]] h (.bool (qP l.y)):=fun h=>Ex.aAs l.y▸dc l.y h;have s0:=rI l.a.r;have k0:=kn0 l.a.l;unfold cF
 (repeat' (first|(with_reducible first|refine stp ?_|refine cA ZM ?_|refine sT (fun _=>?_) (fun _=>?_))|((first|(with_reducible refine nC ?_;first|refine kO rfl ?_ ?_|refine aH (C1 _) rfl (aK _) ?_|refine aH (N1 _) rfl (aK _) ?_|refine aH (N2 _) rfl (aK _) ?_|refine aH (X1 _) rfl (aK _) ?_|refine aH (X2 _) rfl (aK _) ?_|refine Zx ?_)|(with_reducible refine nH ?_;first|refine kU rfl ?_ ?_|refine ZX ?_)|refine Zy ?_)<;>try simp only[s0,k0,jK,go_sem,reduceIte,jA,jB,jC,jD,reduceCtorEq,jE,jF])|refine ZY ?_|omega))
 all_goals refine aC h' (leo hd) ⟨vb ?_,rfl⟩
 all_goals simp_all
 all_goals try omega
theorem wG(r:Ru)(h:Hp):aM Tryz.prog 77 [r.v] h (.bool (Bs r)):=by
 refine aJ (fun L=>trivial) fun h' nx hh=>aB L.aUr fun hd=>?_;obtain⟨⟨hr,ho,hl⟩,g,c,o,b,at_⟩:=r;simp only[jL,jM,jA,jB,jN,jO,jP,jQ,Ka];unfold Bs;by_cases hc:0≤c∧c<hl.length
 ·obtain⟨n,rfl⟩:∃n:Nat,c=n:=⟨c.toNat,or⟩;have hn:n<hl.length:=or;have g1:decide ((n:Int)<0)=false:=dcf;have g2:decide ((hl.length:Int)≤(n:Int))=false:=dcf;have g3:decide ((n:Int)≥(hl.length:Int))=false:=dcf;have hg:=aN Tr.v hl n hn;have hD:hl.getD n sk=hl[n]:=by rw[List.getD_eq_getElem?_getD,List.getElem?_eq_getElem hn];rfl
  have s0:=rI hl[n].x
  (repeat' (first|(with_reducible first|refine stp ?_|refine cA ZM ?_|refine sT (fun _=>?_) (fun _=>?_))|((first|(with_reducible refine nC ?_;first|refine kO rfl ?_ ?_|refine Zx ?_)|(with_reducible refine nH ?_;first|refine kU rfl ?_ ?_|refine ZX ?_)|refine Zy ?_)<;>try simp only[Ru.v.eq_1,g1,g2,g3,hg,hn,s0,Tr.v.eq_1,jK,jG,go_sem,reduceIte,jA,jB,jC,jD,reduceCtorEq,jE,jF])|refine ZY ?_|omega))
  all_goals refine aC h' (leo hd) ⟨vb ?_,rfl⟩
  all_goals simp_all
  all_goals try omega
 rcases(by omega:c<0∨(hl.length:Int)≤c) with hc|hc
 ·have g1:decide (c<0)=true:=dct
  (repeat' (first|(with_reducible first|refine stp ?_|refine cA ZM ?_|refine sT (fun _=>?_) (fun _=>?_))|((first|(with_reducible refine nC ?_;first|refine kO rfl ?_ ?_|refine Zx ?_)|(with_reducible refine nH ?_;first|refine kU rfl ?_ ?_|refine ZX ?_)|refine Zy ?_)<;>try simp only[Ru.v.eq_1,g1,jK,go_sem,reduceIte,jA,jB,jC,jD,reduceCtorEq,jE,jF])|refine ZY ?_|omega))
  all_goals refine aC h' (leo hd) ⟨vb ?_,rfl⟩
  all_goals simp_all
  all_goals try omega
 have g1:decide (c<0)=false:=dcf;have g2:decide ((hl.length:Int)≤c)=true:=dct;have g3:decide (c≥(hl.length:Int))=true:=dct
 (repeat' (first|(with_reducible first|refine stp ?_|refine cA ZM ?_|refine sT (fun _=>?_) (fun _=>?_))|((first|(with_reducible refine nC ?_;first|refine kO rfl ?_ ?_|refine Zx ?_)|(with_reducible refine nH ?_;first|refine kU rfl ?_ ?_|refine ZX ?_)|refine Zy ?_)<;>try simp only[Ru.v.eq_1,g1,g2,g3,jK,go_sem,reduceIte,jA,jB,jC,jD,reduceCtorEq,jE,jF])|refine ZY ?_|omega))
 all_goals refine aC h' (leo hd) ⟨vb ?_,rfl⟩
 all_goals simp_all
 all_goals try omega
theorem pw(r:Ru)(h:Hp):aM Tryz.prog 36 [r.v] h (.bool (eQ r)):=by
 refine aJ (fun L=>trivial) fun h' nx hh=>aB L.aVM fun hd=>?_;simp only[jL,jM,jA,jB,jN,jO,jP,jQ,Ka];have C1:∀h:Hp,aM Tryz.prog 76 [.agg [.str r.h.r, .sl (.agg 4) r.h.o (r.h.l.map Tr.v)]] h (.bool (lR r.h)):=fun h=>xU r.h h;have C2:∀h:Hp,aM Tryz.prog 77 [.agg [.str r.h.r, .sl (.agg 4) r.h.o (r.h.l.map Tr.v), .int .i64 r.g, .int .i64 r.c, .sl (.agg 17) r.o (r.b.map Li.v), .int .i64 r.at_]] h (.bool (Bs r)):=fun h=>wG r h;unfold eQ;by_cases h1:r.b.length≤8
 ·have C3:∀h:Hp,aM Tryz.prog 78 [.sl (.agg 17) r.o (r.b.map Li.v), .fn (.func 79) [] []] h (.bool (r.b.all cF)):=fun h=>na _ cF r.o r.b or h (fun t _=>db t);have g1:decide ((r.b.length:Int)≤8)=true:=dct
  (repeat' (first|(with_reducible first|refine stp ?_|refine cA ZM ?_|refine sT (fun _=>?_) (fun _=>?_))|((first|(with_reducible refine nC ?_;first|refine kO rfl ?_ ?_|refine aH (C1 _) rfl (aK _) ?_|refine aH (C2 _) rfl (aK _) ?_|refine aH (C3 _) rfl (aK _) ?_|refine Zx ?_)|(with_reducible refine nH ?_;first|refine kU rfl ?_ ?_|refine ZX ?_)|refine Zy ?_)<;>try simp only[Ru.v.eq_1,g1,jK,go_sem,reduceIte,jA,jB,jC,jD,reduceCtorEq,jE,jF])|refine ZY ?_|omega))
  all_goals refine aC h' (leo hd) ⟨vb ?_,rfl⟩
  all_goals simp_all
  all_goals try omega
 have g1:decide ((r.b.length:Int)≤8)=false:=dcf
 (repeat' (first|(with_reducible first|refine stp ?_|refine cA ZM ?_|refine sT (fun _=>?_) (fun _=>?_))|((first|(with_reducible refine nC ?_;first|refine kO rfl ?_ ?_|refine aH (C1 _) rfl (aK _) ?_|refine aH (C2 _) rfl (aK _) ?_|refine Zx ?_)|(with_reducible refine nH ?_;first|refine kU rfl ?_ ?_|refine ZX ?_)|refine Zy ?_)<;>try simp only[Ru.v.eq_1,g1,jK,go_sem,reduceIte,jA,jB,jC,jD,reduceCtorEq,jE,jF])|refine ZY ?_|omega))
 all_goals refine aC h' (leo hd) ⟨vb ?_,rfl⟩
 all_goals simp_all
 all_goals try omega
end Go.Proofs.YtgbiopfghdilnaaGreatDoor
