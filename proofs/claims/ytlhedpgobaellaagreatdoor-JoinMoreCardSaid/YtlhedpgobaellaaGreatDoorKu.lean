/-
Texts of this proof,one behind the other. No conditions.
-/
import Derived.Test.YtlhedpgobaellaaGreatDoorKt
open Go.Proofs.YtlhedpgobaellaaGreatDoor.Hp renaming set→Ka,le_refl→Kb,same→Kc,del→Kd
open List renaming mem_map→Ke,length_append→Kf,getD_eq_getElem?_getD→Kh,mem_singleton→Ki,mem_append→Kk,drop_eq_getElem_cons→Km,map_append→Ko,map_cons→Kq,mem_cons→Ks,length_set→Ku,map_nil→Kv
open Prod renaming fst→Kg,snd→Kj
open Nat renaming le_refl→Kp,le_trans→Kt,lt_or_ge→Kw,zero_le→Kx
open Nat renaming reduceAdd→jA,reduceSub→jB,reduceLT→jC,reduceLeDiff→jD,reduceEqDiff→jE
open Int renaming reduceToNat→jF,toNat_natCast→jG,natCast_add→jH,natCast_one→jI,natCast_zero→jJ
open List renaming length_map→jK,length_cons→jL,length_nil→jM
set_option linter.all false
set_option maxHeartbeats 8000000
namespace Go.Proofs.YtlhedpgobaellaaGreatDoor
open Go.RowKit Go.Sort
attribute [local irreducible] IntKind.wrap
theorem ya(ar:Int)(zs:List TR)(hr:eB ar zs)(h:Hp):aL Tryz.prog 63 [jS ar zs] h (jS ar zs):=by
 refine aJ (fun L=>sZ (fun z hz=>(hr.row z hz).2.2) L) fun h' nx hh=>aB L.aWC fun hd=>?_;have hd:aV h' nx:=hd;have hz:=hr.len;obtain⟨o,ho⟩:=eH .leaf (zs.map TR.v);have hnil:o= .nil→zs.map TR.v=[]:=fun e=>by
  rw[e] at ho;cases hm:zs.map TR.v with
  |nil=>rfl
  |cons a b=>rw[hm] at ho;cases ho
 have D1:=fun h=>pC nB or o (zs.map TR.v) (by rw[jK];omega) hnil (fun L=>fY.2 fun v hv=>by obtain⟨z,hz,rfl⟩:=Ke.1 hv;exact TR.names (hr.row z hz).2.2 L) h;have ho2:(V.sl .leaf o (zs.map TR.v)).loose= .sl .leaf o (zs.map TR.v):=by
  rw[←ho];cases zs.map TR.v<;>rfl
 rw[ho2] at D1;unfold jS;rw[ho];generalize zs.map TR.v=X at*;refine ZK ?_;generalize hR:aS.seq (.draw 12 L.aEg L.aDF) .ret=RT;refine au ?_;rw[←hR];refine bG ?_;generalize hR2:kQ _ _=R;refine au ?_;rw[←hR2];refine dD (kO (t:=2) (n:=nx+10) (k:= .agg 2) (i:=0) (o:=0) (es:=[.agg [.int .i64 ar, .sl .leaf o X]]) rfl (by simp only[go_sem,reduceIte,jA,jB,jC,jD,reduceCtorEq,jE,jF])) ?_;refine Zn ?_;refine au ?_;exact aC h' (kE (eO (Kb _) (aV.none hd or) _) (aV.none hd or)) ⟨rfl,rfl⟩
theorem Dz(k:Sh)(len:Nat):E3 fun a=> .rs a k 0 len:=by
 intro K a a' cv L ha hL hvr;cases hvr with
 |rs _ _ _ _ cap hl hcap hsh=>
  have hmu:((K.aAF a' (K.mu a) (K.imm (K.mu a))).only L).mu a'=K.mu a:=by simp[Ker.aAF,Ker.only]
  have:=VR.rs (K:=(K.aAF a' (K.mu a) (K.imm (K.mu a))).only L) a' k 0 len cap hL hcap (by rw[hmu];exact hsh);rw[hmu] at this;exact this
theorem Bx(ar:Int)(zs:List TR)(hr:eB ar zs)(h:Hp)(nx:Nat):aR Tryz.prog 63 [jS ar zs] h nx fun v h' _=>
 ∃b M,v= .ptr b (.agg 2) 0 0∧nx≤b∧h' b=some (.arr (.agg 2) [.agg [.int .i64 ar,M]])∧pw h' M zs b∧(∀n,mI M=some n→nx≤n)∧∀k,k<nx→h' k=h k:=by
 refine aB L.aWC fun hd=>?_;have hd:aV h nx:=hd;have hz:=hr.len;by_cases hz0:zs=[]
 ·subst hz0;have D1:=fun h=>pC nB or .nil [] Zm (fun _=>rfl) (fun L=>trivial) h;have ho2:(V.sl .leaf .nil []).loose= .sl .leaf .nil []:=rfl;rw[ho2] at D1;show lwp _ _ _ ⟨[.ept (.agg 2) [.agg [.int .i64 ar, .sl .leaf .nil []]] 0 0]++_,_,_⟩;refine ZK ?_;refine au ?_;exact aC _ (Kb _) ⟨nx+10, .sl .leaf .nil [],rfl,or,by simp only[go_sem,reduceIte,jA,jB,jC,jD,reduceCtorEq,jE,jF], .inl ⟨rfl,rfl⟩,fun n e=>(by cases e),fun k hk=>by simp only[Ka];rw[if_neg or]⟩
 have ho:lst .leaf (zs.map TR.v)= .sl .leaf .free (zs.map TR.v):=by
  cases zs with
  |nil=>exact absurd rfl hz0
  |cons a b=>rfl
 have DT:=E8 (h:=h) (c:=none) (Dz .leaf (zs.map TR.v).length) (es:=zs.map TR.v) (fun L=>fY.2 fun v hv=>by obtain⟨z,hz,rfl⟩:=Ke.1 hv;exact TR.names (hr.row z hz).2.2 L) (fun L n h=>h) (fun c' e=>by cases e) fun h' nx hh=>Cv nB or .free (zs.map TR.v) (by rw[jK];omega) Zm (by simpa using hz0) h' nx;unfold jS;rw[ho];have hml:(zs.map TR.v).length=zs.length:=jK ..;generalize hX:zs.map TR.v=X at*;refine ZK ?_;refine au ?_;refine Cl DT rfl ?_;refine Zn ?_;refine au ?_;exact aC _ (Kb _) ⟨nx+10, .rs (nx+8) .leaf 0 zs.length,by simp only[hml,go_sem,reduceIte,jA,jB,jC,jD,reduceCtorEq,jE,jF],or,by simp only[hml,go_sem,reduceIte,jA,jB,jC,jD,reduceCtorEq,jE,jF], .inr ⟨hz0,nx+8,rfl,by simp only[hX,(fls:(nx+8=nx+10)=False),go_sem,reduceIte,jA,jB,jC,jD,reduceCtorEq,jE,jF],or⟩,fun n e=>(by injection e with e;omega),fun k hk=>by simp only[Ka];rw[if_neg or,if_neg or]⟩
theorem mf{α β:Type}(f:α→β):∀{l:List α},(l.map f).Nodup→∀{a b:α},a∈l→b∈l→f a=f b→a=b
 |c::l,hn,a,b,ha,hb,h=>by
  rw[Kq,List.nodup_cons] at hn;rcases Ks.1 ha with rfl|h1
  ·rcases Ks.1 hb with rfl|h2
   ·rfl
   exact absurd (Ke.2 ⟨b,h2,h.symm⟩) hn.1
  rcases Ks.1 hb with rfl|h2
  ·exact absurd (Ke.2 ⟨a,h1,h⟩) hn.1
  exact mf f hn.2 h1 h2 h
def E2(h:Hp)(n0:Nat)(s0:Sr)(b:Nat)(W:V):Prop:=n0≤b∧h b=some (.arr (.agg 2) [.agg [.int .i64 s0.ar,W]])∧pw h W s0.zs b∧∀n,mI W=some n→n0≤n
theorem E2.keep{h h':Hp}{n0 nx:Nat}{s0:Sr}{b:Nat}{W:V}(o:E2 h n0 s0 b W)(hd:aV h nx)(hk:∀k,n0≤k→k<nx→h' k=h k):E2 h' n0 s0 b W:=by
 obtain⟨h1,h2,h3,h4⟩:=o;refine⟨h1,(hk b h1 (hd _ _ h2)).trans h2,?_,h4⟩;rcases h3 with q|⟨q1,n,rfl,q2,q3⟩
 ·exact .inl q
 exact .inr ⟨q1,n,rfl,(hk n (h4 n rfl) (hd _ _ q2)).trans q2,q3⟩
theorem t7(S:List Sr)(hS:∀s∈S,eB s.ar s.zs)(x0:ByteArray)(s0:Sr)(h0:lkS x0 S=some s0)(N:Nat)(es:List ME)(c:Nat)(hE:pu es c S)(h:Hp)(nx:Nat)(hN:h N=some (.mp es c)):
 aR Tryz.prog 24 [.map N] h nx fun v h' _=>∃M S2 b W,v= .map M∧nx≤M∧h' M=some (.mp (cpE x0 (.ptr b (.agg 2) 0 0) 0 S2) S2.length)∧S2.Perm S∧E2 h' nx s0 b W∧∀k,k<nx→h' k=h k:=by
 refine aB L.aZl fun hd=>?_;have hd:aV h nx:=hd;have hNx:=hd _ _ hN;obtain⟨T,rfl,hTS,hb0,hc0,hns⟩:=hE;have hnT:(T.map fun p=>p.1.r).Nodup:=by rw[←hTS,List.map_map] at hns;exact hns
 have hTm:∀y∈T,y.1∈S:=fun y hy=>by rw[←hTS];exact Ke.2 ⟨y,hy,rfl⟩
 refine ZK ?_;refine au ?_;refine oF ?_;refine au ?_;refine sx (n:=N) (c:=c) (es:=T.map meS) rfl (by simp only[hN,(fls:(N=nx)=False),go_sem,reduceIte,jA,jB,jC,jD,reduceCtorEq,jE,jF]) ?_;refine au ?_
 refine aQ (fun q:List (Sr×Nat)×Nat×V=>aD 21 0 [(0, .map N),(3, .map nx),(8, .ptr (nx+1) .leaf 0 0)])
  (fun q hp nx1=>nx+1<nx1∧aV hp nx1∧hp N=some (.mp (T.map meS) c)∧hp (nx+1)=some (.mit N c (q.1.map Kj) c)∧hp nx=some (.mp (cpE x0 (.ptr q.2.1 (.agg 2) 0 0) 0 (q.1.map Kg)) q.1.length)∧(q.1.map Kj).Nodup∧(∀y∈q.1,y∈T)∧(∀k,k<nx→hp k=h k)∧((∃y∈q.1,y.1.r=x0)→E2 hp (nx+2) s0 q.2.1 q.2.2))
  (fun q=>T.length-q.1.length) ([],0, .nilPtr) ⟨Zw,by exact dmo hd,by simp only[hN,(fls:(N=nx)=False),(fls:(N=nx+1)=False),go_sem,reduceIte,jA,jB,jC,jD,reduceCtorEq,jE,jF],by simp only[go_sem,reduceIte,jA,jB,jC,jD,reduceCtorEq,jE,jF],by simp only[(fls:(nx=nx+1)=False),go_sem,reduceIte,jA,jB,jC,jD,reduceCtorEq,jE,jF];rfl,Zm,Zm,fun k hk=>by simp only[Ka];rw[if_neg or,if_neg or],fun⟨y,hy,_⟩=>by cases hy⟩ (by simp only[WkL,aD,jH,jI,jJ,go_sem,reduceIte,jA,jB,jC,jD,reduceCtorEq,jE,jF]) ?_
 rintro⟨js,b,W⟩ hp nx1 ⟨q0,hdm,q2,q3,q4,q7,q8,q9,qo⟩;generalize hQ:bB _ _ _ _ _=Q0;dsimp only at q3 q4 q7 q8 qo;refine Zk ?_;refine au ?_;refine s5 rfl q3 q2 (fun e he=>by obtain⟨y,hy,rfl⟩:=Ke.1 he;exact hc0 y hy) (Kp _) ?_ ?_
 ·intro e he aGo;obtain⟨y,hy,rfl⟩:=Ke.1 he;have aGo:y.2∉js.map Kj:=aGo;have hno:∀z∈js,z.1.r≠y.1.r:=fun z hz e=>aGo (by rw[←mf (fun p:Sr×Nat=>p.1.r) hnT (q8 z hz) hy e];exact Ke.2 ⟨z,hz,rfl⟩);have hf:bM (.plain .leaf [.str]) (.str y.1.r) (cpE x0 (.ptr b (.agg 2) 0 0) 0 (js.map Kg))=some none:=by
   have:=wB x0 (.ptr b (.agg 2) 0 0) y.1.r (js.map Kg) 0;rw[DU (fun s hs=>by obtain⟨z,hz,rfl⟩:=Ke.1 hs;exact hno z hz)] at this;exact this
  have hry:=hS _ (hTm y hy);have hvp:veq .ptr (jS y.1.ar y.1.zs) .nilPtr=some false:=rfl;have hpl:(jS y.1.ar y.1.zs).aAE=true:=rfl;have aG7:=kz Kj q7 q8 hy aGo;have m1:(N=nx+1)=False:=fls;have m2:(nx=nx+1)=False:=fls;have m3:(nx+1=nx)=False:=fls;simp only[meS,Sr.v];refine au ?_;refine s7 (b:=y.2) (e:=meS y) (m:=N) (since:=c) (c:=c) (es:=T.map meS) (seen:=js.map Kj++[y.2]) rfl (by simp only[go_sem,reduceIte,jA,jB,jC,jD,reduceCtorEq,jE,jF]) (by simp only[q2,m1,go_sem,reduceIte,jA,jB,jC,jD,reduceCtorEq,jE,jF]) Zm (AV meS (by exact hb0) hy) ?_;simp only[meS,Sr.v];refine aue (e2 hvp hpl) ?_;have aGp:∀P:V,cpE x0 P 0 ((js++[y]).map Kg)=cpE x0 P 0 (js.map Kg)++[⟨.str y.1.r,if y.1.r=x0 then P else y.1.v,js.length⟩]:=fun P=>by
   rw[Ko];show cpE x0 P 0 (js.map Kg++[y.1])=_;rw[u7,jK,Nat.zero_add]
  by_cases hx:y.1.r=x0
  ·obtain⟨p1,p2⟩:=(kM hns).1 h0;have hy0:y.1=s0:=by
    have e:=(kM hns).2 ⟨hTm y hy,hx⟩;rw[h0] at e;injection e with e;exact e.symm
   have hjs:∀s∈js.map Kg,s.r≠x0:=fun s hs=>by
    obtain⟨z,hz,rfl⟩:=Ke.1 hs;rw[←hx];exact hno z hz
   refine aU ((Bx y.1.ar y.1.zs hry _ _).dom.mono ?_);rintro v h4 nx4 aCJ ⟨⟨b2,W2,rfl,r1,r2,r3,r4,r5⟩,hd4,_⟩;unfold bQ;refine Zn ?_;dsimp only at r1 r4 r5 aCJ;have hq4:h4 nx=some (.mp (cpE x0 (.ptr b (.agg 2) 0 0) 0 (js.map Kg)) js.length):=by
    rw[r5 nx or];simp only[m2,q4,go_sem,reduceIte,jA,jB,jC,jD,reduceCtorEq,jE,jF]
   refine kB (es:=cpE x0 (.ptr b (.agg 2) 0 0) 0 (js.map Kg)) (c:=js.length) (n:=nx) rfl rfl hq4 hf ?_;refine Zn ?_;refine au ?_;rw[←hQ];have hm2:=aGp (.ptr b2 (.agg 2) 0 0);rw[if_pos hx,←xR (P:= .ptr b (.agg 2) 0 0) hjs] at hm2;refine aF (js++[y],b2,W2) (by dsimp only;rw[Kf,jL,jM];omega) ⟨or,dmo hd4,?_,?_,?_,cq Kj q7 aGo,fun z hz=>?_,fun k hk=>?_,fun _=>⟨Zw,?_,?_,fun n e=>by have:=r4 n e;omega⟩⟩ (by simp only[WkL,aD,jH,jI,jJ,go_sem,reduceIte,jA,jB,jC,jD,reduceCtorEq,jE,jF])
   ·simp only[(fls:(N=nx)=False),go_sem,reduceIte,jA,jB,jC,jD,reduceCtorEq,jE,jF];rw[r5 N or];simp only[q2,m1,go_sem,reduceIte,jA,jB,jC,jD,reduceCtorEq,jE,jF]
   ·simp only[m3,go_sem,reduceIte,jA,jB,jC,jD,reduceCtorEq,jE,jF];rw[r5 (nx+1) or];simp only[go_sem,reduceIte,jA,jB,jC,jD,reduceCtorEq,jE,jF,Ko,Kq,Kv]
   ·dsimp only;rw[hm2,Kf];simp only[go_sem,reduceIte,jA,jB,jC,jD,reduceCtorEq,jE,jF]
   ·rcases Kk.1 hz with hz|hz
    ·exact q8 z hz
    rw[Ki] at hz;subst hz;exact hy
   ·simp only[Ka];rw[if_neg or,r5 k or];simp only[Ka];rw[if_neg or];exact q9 k hk
   ·simp only[(fls:(b2=nx)=False),go_sem,reduceIte,jA,jB,jC,jD,reduceCtorEq,jE,jF];rw[r2,hy0]
   rw[←hy0];rcases r3 with q|⟨q1,n,rfl,q2',q3'⟩
   ·exact .inl q
   have:=r4 n rfl;exact .inr ⟨q1,n,rfl,by simp only[(fls:(n=nx)=False),go_sem,reduceIte,jA,jB,jC,jD,reduceCtorEq,jE,jF];exact q2',q3'⟩
  refine aI (ya y.1.ar y.1.zs hry _) rfl (aH _) ?_;refine kB (es:=cpE x0 (.ptr b (.agg 2) 0 0) 0 (js.map Kg)) (c:=js.length) (n:=nx) rfl rfl (by simp only[q4,m2,go_sem,reduceIte,jA,jB,jC,jD,reduceCtorEq,jE,jF]) hf ?_;refine Zn ?_;refine au ?_;rw[←hQ];have hm2:=aGp (.ptr b (.agg 2) 0 0);rw[if_neg hx] at hm2;refine aF (js++[y],b,W) (by dsimp only;rw[Kf,jL,jM];omega) ⟨or,dmo hdm,?_,?_,?_,cq Kj q7 aGo,fun z hz=>?_,fun k hk=>?_,fun⟨z,hz,e⟩=>?_⟩ (by simp only[WkL,aD,jH,jI,jJ,go_sem,reduceIte,jA,jB,jC,jD,reduceCtorEq,jE,jF])
  ·simp only[q2,(fls:(N=nx)=False),m1,go_sem,reduceIte,jA,jB,jC,jD,reduceCtorEq,jE,jF]
  ·simp only[m3,Ko,Kq,Kv,go_sem,reduceIte,jA,jB,jC,jD,reduceCtorEq,jE,jF]
  ·dsimp only;rw[hm2,Kf];refine Zn ?_;rfl
  ·rcases Kk.1 hz with hz|hz
   ·exact q8 z hz
   rw[Ki] at hz;subst hz;exact hy
  ·simp only[Ka];rw[if_neg or,if_neg or];exact q9 k hk
  refine(qo ⟨z,?_,e⟩).keep hdm fun k hk1 hk2=>?_
  ·rcases Kk.1 hz with hz|hz
   ·exact hz
   rw[Ki] at hz;subst hz;exact absurd e hx
  simp only[Ka];rw[if_neg or,if_neg or]
 intro aAZ;refine au ?_;rw[←hQ];refine au ?_;have aPN:js.Perm T:=AF Kj hb0 q7 q8 fun y hy=>aAZ (meS y) (Ke.2 ⟨y,hy,rfl⟩);have hS2:(js.map Kg).Perm S:=by rw[←hTS];exact aPN.map _
 refine aC hp (Kb _) ⟨nx,js.map Kg,b,W,rfl,Kp _,by rw[jK];exact q4,hS2,?_,q9⟩;obtain⟨p1,p2⟩:=(kM hns).1 h0;obtain⟨y,hy,e⟩:=Ke.1 (hS2.mem_iff.2 p1);obtain⟨o1,o2,o3,o4⟩:=qo ⟨y,hy,by rw[e];exact p2⟩;exact⟨or,o2,o3,fun n e=>by have:=o4 n e;omega⟩
end Go.Proofs.YtlhedpgobaellaaGreatDoor
namespace Go.Proofs.YtlhedpgobaellaaGreatDoor
open Go.RowKit
theorem Ap{sl:List V}{h:Hp}{nx N i n c o a:Nat}{k:Sh}{es:List ME}{cs:List V}(hN:h N=some (.mp es c))(hi:i<es.length)(hv:(es.getD i default).v= .ptr n k a o)(hn:h n=some (.arr k cs)):
 qZ ⟨sl,h,nx⟩ ⟨sl,(h.del n).set N (.mp (es.set i ⟨(es.getD i default).k, .ept k cs a o,(es.getD i default).b⟩) c),nx+1⟩:=by
 intro K0 K nx0 act r;have hfr:¬K.live nx:=fun hh=>Nat.lt_irrefl _ (r.live nx hh).1;have hne:N≠n:=fun e=>by rw[e,hn] at hN;cases hN
 cases r.rel.blk N _ hN with
 |mp _ _ ces hh hl hce=>
  have hvi:=(hce i hi).2.1;rw[hv] at hvi;obtain⟨K',q1,q2,q3,q4,q5⟩:=ei r.rel hn hfr hvi;have hN2:(h.del n) N=some (.mp es c):=by unfold Kd;rw[if_neg hne];exact hN
  have hrel:Rel K' ((h.del n).set N (.mp (es.set i ⟨(es.getD i default).k, .ept k cs a o,(es.getD i default).b⟩) c)):=by
   have hbl:=q5.blk N _ hN2;cases hbl with
   |mp _ _ ces' hh' hl' aPh=>
    have hmu:K'.mu N=K.mu N:=q2.mu N (r.rel.lt N _ hN);have hcc:ces'=ces:=by rw[q1,hmu,hh] at hh';injection hh' with e;injection e with e _;exact e.symm
    subst hcc;refine⟨fun x b e=>?_,fun x b e=>?_,fun x b e=>?_,fun x y b b' e e'=>?_,q5.size⟩
    ·unfold Ka at e;split at e
     ·rename_i hx;subst hx;exact q5.lt _ _ hN2
     exact q5.lt x b e
    ·unfold Ka at e;split at e
     ·rename_i hx;subst hx;exact q5.base _ _ hN2
     exact q5.base x b e
    ·unfold Ka at e;split at e
     ·rename_i hx;subst hx;injection e with e;subst e;refine .mp _ c ces' hh' (by rw[Ku];exact hl') fun j hj=>?_;rw[Ku] at hj;by_cases ej:i=j
      ·subst ej;rw[Kh,List.getElem?_set_self hj];exact⟨(aPh i hj).1,q4,(aPh i hj).2.2⟩
      have h0:=aPh j hj;rw[Kh] at h0;rw[Kh,List.getElem?_set_ne ej];exact h0
     exact q5.blk x b e
    have hx:∀{x b},((h.del n).set N (.mp (es.set i ⟨(es.getD i default).k, .ept k cs a o,(es.getD i default).b⟩) c)) x=some b→∃b',(h.del n) x=some b':=fun{x b} e=>by
     unfold Ka at e;split at e
     ·rename_i hx;subst hx;exact⟨_,hN2⟩
     exact⟨_,e⟩
    obtain⟨b1,e1⟩:=hx e;obtain⟨b2,e2⟩:=hx e';exact q5.inj x y _ _ e1 e2
  refine⟨K',q1,r.le.trans q2,r.aAC.mono q2,hrel,fun x hx=>?_,Nat.le_succ_of_le r.nx,by rw[q1];exact r.defers⟩;rcases q3 x hx with hx|rfl
  ·have:=r.live x hx;exact⟨Nat.lt_succ_of_lt this.1,this.2⟩
  exact⟨Nat.lt_succ_self _, .inr r.nx⟩
end Go.Proofs.YtlhedpgobaellaaGreatDoor
namespace Go.Proofs.YtlhedpgobaellaaGreatDoor
open Go.RowKit Go.Sort
attribute [local irreducible] IntKind.wrap
set_option maxRecDepth 100000
theorem iJ(n k:Int)(h:Hp):aL Tryz.prog 26 [dO n, .int .i64 k] h (.bool (n==k)):=by
 refine aJ (fun L=>trivial) fun h' nx hh=>aB L.aZV fun hd=>?_;refine ZK ?_;have C1:=fun h=>BE n h;refine au ?_;exact aC h' (leo hd) ⟨rfl,rfl⟩
theorem rb:∀(l:List Fc) (i n:Nat) (S S':List Sr),yU i n S l=some S'→∃T,S'=S++T
 | [],i,n,S,S',h=>by
  injection h with h;exact⟨[],by rw[←h,List.append_nil]⟩
 |f::r,i,n,S,S',h=>by
  rw[rD] at h;split at h
  ·cases h
  obtain⟨T,e⟩:=rb r _ _ _ _ h;exact⟨_::T,by rw[e,List.append_assoc];rfl⟩
theorem w9{f:Fc}{l:List Fc}{S:List Sr}(h:yU 0 0 [] (f::l)=some S):∃s0,lkS f.r S=some s0:=by
 rw[rD] at h;split at h
 ·cases h
 obtain⟨T,e⟩:=rb l _ _ _ _ h;exact⟨⟨f.r,f.ar,(dJ f.ar f.l).1⟩,by rw[e];simp[lkS]⟩
def sm:aS:= .seq (.seq (.ops L.aFB) (.cond (.slot 65) (.seq (.ops L.aFA) .ret) .skip)) (.seq (.ops L.aE9) (.seq (.seq (.ops L.aDM) (.seq (.ops L.aE8) (.cond (.slot 83) (.seq (.ops L.aE7) .ret) .skip))) (.seq (.ops L.aE6) (.seq (.seq (.ops L.aE5) (.cond (.slot 91) (.seq (.ops L.aE4) .ret) .skip)) (.seq (.ops L.aE3) (.seq (.seq (.ops L.aE2) (.block 2 (.loop L.aOk))) (.seq (.ops L.aE1) .ret)))))))
theorem y9{G:ByteArray→List (List Vl)}{r:Ru}(h:(cL G r).2≠0):(cL G r).1=[]:=by
 unfold cL at h⊢;split
 ·rfl
 rename_i h1;rw[if_neg h1] at h;split
 ·rfl
 rename_i h2;rw[if_neg h2] at h;exact absurd rfl h
theorem d5(G:ByteArray→List (List Vl))(r:Ru):Str cM (cL G r).1:=by
 unfold cL;split
 ·exact List.Pairwise.nil
 split
 ·exact List.Pairwise.nil
 exact(fM c3T _).1
theorem wX(a:Am):∀(es:List (List Tr)) (acc:List (List Vl)),(∀t∈acc,t.length≤6)→(∀t∈(nY a acc es).1,t.length≤6)∧(nY a acc es).1.length≤acc.length+es.length
 | [],acc,h=>⟨h,Kp _⟩
 |e::r,acc,h=>by
  rw[sX];split
  ·exact⟨Zm,Zm⟩
  obtain⟨p,q⟩:=wX a r (acc++[(cV a e).1]) fun t ht=>by
   rcases Kk.1 ht with q|q
   ·exact h t q
   rw[Ki.1 q];exact ld a e
  refine⟨p,Kt q ?_⟩;simp only[Kf,jL,jM];omega
theorem zb(G:ByteArray→List (List Vl))(r:Ru):∀t∈(cL G r).1,t.length≤6:=by
 unfold cL;split
 ·simp
 split
 ·simp
 intro t ht;exact(wX r.h _ [] Zm).1 t (((fM c3T _).2 t).1 ht)
theorem d6(G:ByteArray→List (List Vl))(r:Ru):(cL G r).1.length≤20000:=by
 unfold cL;split
 ·simp
 split
 ·simp
 refine Kt (Df _) (Kt (wX r.h _ [] Zm).2 ?_);have:=wa G r;simpa using this
theorem oy{h:Hp}{nx n0 M b c:Nat}{ar:Int}{zs:List TR}{W:V}{x0:ByteArray}{S2:List Sr}(hd:aV h nx)(hb:h b=some (.arr (.agg 2) [.agg [.int .i64 ar,W]]))(hW:pw h W zs b)(hM:h M=some (.mp (cpE x0 (.ptr b (.agg 2) 0 0) 0 S2) c))(hn:(S2.map Sr.r).Nodup)(hx:∃s∈S2,s.r=x0)(h1:n0≤b)(h2:n0≤M)(h3:∀n,mI W=some n→n0≤n):
 ∃H nxH,(∀sl,qZ ⟨sl,h,nx⟩ ⟨sl,H,nxH⟩)∧aV H nxH∧nx≤nxH∧(∀k,k<n0→H k=h k)∧H M=some (.mp (cpE x0 (jS ar zs) 0 S2) c):=by
 obtain⟨j,j1,j2,j3⟩:=AZ (P:= .ptr b (.agg 2) 0 0) (P':=jS ar zs) (i:=0) hn hx;have hMb:M≠b:=fun e=>by rw[e,hb] at hM;cases hM
 have hbn:=hd _ _ hb;have hMn:=hd _ _ hM;rcases hW with⟨rfl,rfl⟩|⟨hne,n,rfl,hn1,hn2⟩
 ·refine⟨(h.del b).set M (.mp (cpE x0 (jS ar []) 0 S2) c),nx+1,fun sl=>?_,fun m bl e=>?_,Nat.le_succ _,fun k hk=>?_,by simp[Ka]⟩
  ·have:=Ap (sl:=sl) (nx:=nx) hM j1 j2 hb;rw[show V.ept (.agg 2) [.agg [.int .i64 ar, .sl .leaf .nil []]] 0 0=jS ar [] from rfl,j3] at this;exact this
  ·simp only[Ka,Kd] at e;split at e
   ·omega
   split at e
   ·cases e
   have:=hd _ _ e;omega
  simp only[Ka,Kd];rw[if_neg or,if_neg or]
 have h3':=h3 n rfl;have hnn:=hd _ _ hn1;have aXK:M≠n:=fun e=>by rw[e,hn1] at hM;cases hM
 have e1:([V.int .i64 ar, .rs n .leaf 0 zs.length]:List V).set 1 (.sl .leaf .free (((zs.map TR.v).drop 0).take zs.length))=[.int .i64 ar,lst .leaf (zs.map TR.v)]:=by
  cases zs with
  |nil=>exact absurd rfl hne
  |cons a r=>rw[List.drop_zero,List.take_of_length_le Zm];rfl
 refine⟨(((h.del n).set b (.arr (.agg 2) [.agg [.int .i64 ar,lst .leaf (zs.map TR.v)]])).del b).set M (.mp (cpE x0 (jS ar zs) 0 S2) c),nx+2,fun sl=>?_,fun m bl e=>?_,or,fun k hk=>?_,by simp[Ka]⟩
 ·have t1:=Aq (sl:=sl) (nx:=nx) (p:=b) (m:=2) (j:=1) (n:=n) (k:= .leaf) (off:=0) (len:=zs.length) hb ZM rfl hn1 (fun e=>hn2 e.symm) Zm;rw[e1] at t1;have t2:=Ap (sl:=sl) (nx:=nx+1) (h:=(h.del n).set b (.arr (.agg 2) [.agg [.int .i64 ar,lst .leaf (zs.map TR.v)]])) (N:=M) (c:=c) (cs:=[.agg [.int .i64 ar,lst .leaf (zs.map TR.v)]]) (by simp only[Ka,Kd];rw[if_neg hMb,if_neg aXK];exact hM) j1 j2 (by simp only[Ka,if_true]);rw[show V.ept (.agg 2) [.agg [.int .i64 ar,lst .leaf (zs.map TR.v)]] 0 0=jS ar zs from rfl,j3] at t2;exact t1.trans t2
 ·simp only[Ka,Kd] at e;repeat' split at e
  all_goals first|omega|(cases e;done)|(have:=hd _ _ e;omega)
 simp only[Ka,Kd];repeat rw[if_neg or]
theorem BG(r:Ru)(hb:r.b.length≤140737488355328)(BV:List V)(hBV:r.v= .agg BV)(o:Own)(f0:Fc)(LR:List V)(p:TR)(hp:p.1= .nil→p.2=[])(hpl:p.2.length≤50)(S:List Sr)(hS:∀s∈S,eB s.ar s.zs)(N:Nat)(es:List ME)(c:Nat)(aPD:fH es S)(aG4:pu es c S)(s0:Sr)(hs0:lkS f0.r S=some s0)(aA9:∀x∈r.b,x.k≠2)
 (h':Hp) (nx:Nat) (hd:aV h' nx) (h4:Hp) (nx4:Nat) (hd4:aV h4 nx4) (hle:Kc nx h' h4) (hN:h4 N=some (.mp es c)) (hb4:h4 nx=some (.arr (.agg 6) [.agg BV])):
 lwp Tryz.prog sm (sC [.slot 6] fun v' h'' _=>v'= .bool true∧h''=h') ⟨aD 128 0 [(1, .sl (.agg 3) o (f0.v::LR)),(2,p.v),(3, .ptr nx (.agg 6) 0 0),(6, .bool false),(7, .map N),(12,lst .leaf ((cL (cO S) r).1.map fun t=>vls .free t)),(13,dO (cL (cO S) r).2)],h4,nx4⟩:=by
 unfold sm;have CH:=fun(S:List Sr) hS h nx N es c hN hst=>oX r S hS h nx N es c hN hst hb;have hm:=fun(S':List Sr) hS' hsub=>za (r:=r) (yA hS) (yA (S:=S') hS') hsub aA9;have aVo:=fun S=>y9 (G:=cO S) (r:=r);have hn4:nx<nx4:=hd4 _ _ hb4;have hN4:N<nx4:=hd4 _ _ hN;have hf:(V.agg BV).fits (.agg 6)=true:=by rw[←hBV];cases r;rfl
 rw[hBV] at CH;obtain⟨P,hP⟩:∃P,cL (cO S) r=P:=⟨_,rfl⟩;have aFc:=aVo S;rw[hP] at aFc hm⊢;obtain⟨A,en⟩:=P;dsimp only at aFc hm⊢;have hve:=eK en;obtain⟨oA,hoA⟩:=eH .leaf (A.map fun t=>vls .free t);have hml:(A.map fun t=>vls .free t).length=A.length:=jK ..;rw[hoA];have aCJ:=hle.le hd (Kb _);refine Zk ?_;by_cases hz:en=0
 ·rw[decide_eq_true hz] at hve;refine aue (e2 hve hml) ?_;subst hz;have hm:=fun S' hS' hsub=>hm S' hS' hsub rfl;refine aU ((t7 S hS f0.r s0 hs0 N es c aG4 h4 nx4 hN).dom.mono ?_);rintro v h5 nx5 bAF ⟨⟨M,S2,b,W,rfl,hM0,hM,hpm,⟨ho1,ho2,ho3,ho4⟩,hk5⟩,hd5,_⟩;unfold bQ;generalize hTQ:kQ (lwp Tryz.prog (.seq (.seq (.ops L.aDM) _) _)) _=TQ;refine Zn ?_;refine au ?_;rw[←hTQ];refine aW (bG ?_);generalize hRQ:kQ _ _=RQ;have hb5:h5 nx=some (.arr (.agg 6) [.agg BV]):=(hk5 nx hn4).trans hb4;have hM5:M<nx5:=hd5 _ _ hM;obtain⟨hs1,hs2⟩:s0∈S∧s0.r=f0.r:=by
   obtain⟨T,_,hTS,_,_,hns⟩:=aG4;exact(kM hns).1 hs0
  have hns:(S.map Sr.r).Nodup:=by obtain⟨T,_,hTS,_,_,hns⟩:=aG4;exact hns
  have aVj:(S2.map Sr.r).Nodup:=(hpm.map Sr.r).nodup_iff.2 hns;obtain⟨j,hj1,hj2,hj3⟩:∃j,bM (.plain .leaf [.str]) (.str f0.r) (cpE f0.r (.ptr b (.agg 2) 0 0) 0 S2)=some (some j)∧iY false .nilPtr (cpE f0.r (.ptr b (.agg 2) 0 0) 0 S2) (some j)= .ptr b (.agg 2) 0 0∧j<(cpE f0.r (.ptr b (.agg 2) 0 0) 0 S2).length:=by
   have:=wB f0.r (.ptr b (.agg 2) 0 0) f0.r S2 0;rw[s8 hpm aVj,hs0] at this;obtain⟨j,q1,q2,q3⟩:=this;rw[if_pos rfl] at q2;exact⟨j,q1,q2,q3⟩
  have hFv:f0.v= .agg [.str f0.r, .int .i64 f0.ar, .sl .leaf f0.o (f0.l.map TR.v)]:=rfl;rw[hFv];generalize V.sl .leaf f0.o (f0.l.map TR.v)=FL at*;have CA:=bu s0.ar s0.zs (hS s0 hs1) p hp or b W;generalize hPV:p.v=PV at*;refine aue (e5 hM hM5 hj1 hj2 hb5) ?_;have aGl:=(hS s0 hs1).add hp;have aG3:=F5 (ar:=s0.ar) (zs:=s0.zs) (p:=p);obtain⟨PA,hPA⟩:∃PA,nS s0.ar s0.zs p=PA:=⟨_,rfl⟩;simp only[hPA] at CA aGl aG3;refine aU ((CA h5 nx5 ho2 ho3).dom.mono ?_);rintro v h6 nx6 bAE ⟨⟨rfl,W',q1,q2,q3,q4⟩,hd6,_⟩;unfold bQ;refine Zn ?_;have aOp:=eK PA.2.2;have hb0:=hd5 _ _ ho2;have hk6:∀k,k<nx4→h6 k=h4 k:=fun k hk=>(q4 k or or (fun e=>by have:=ho4 k e;omega)).trans (hk5 k hk);have hs6:Kc nx h' h6:=fun k hk=>(hk6 k or).trans (hle k hk);by_cases hz2:PA.2.2=0
  ·rw[decide_eq_true hz2] at aOp;refine aue aOp ?_;rw[←hRQ];have hM6:h6 M=some (.mp (cpE f0.r (.ptr b (.agg 2) 0 0) 0 S2) S2.length):=(q4 M hM5 (fun e=>by rw[e,ho2] at hM;cases hM) (fun e=>by
    rcases ho3 with⟨_,rfl⟩|⟨_,n,rfl,h5n,_⟩
    ·cases e
    injection e with e;rw[e,hM] at h5n;cases h5n)).trans hM
   obtain⟨H,nxH,ht,hdH,hnH,hkH,hMH⟩:=oy (n0:=nx4) hd6 q1 q2 hM6 aVj ⟨s0,hpm.mem_iff.2 hs1,hs2⟩ ho1 hM0 (fun n e=>by
    rcases q3 with q|⟨n',q,q'⟩
    ·exact ho4 n (q.symm.trans e)
    rw[q] at e;injection e with e;omega)
   refine dD (ht _) ?_;have aWq:=Cs hpm hns hs0 PA.1;have hSH:∀s∈wP f0.r PA.1 S,eB s.ar s.zs:=fun s hs=>by
    rcases qn hs with q|⟨t0,p1,p2,p3,rfl⟩
    ·exact hS s q
    rw[hs0] at p3;injection p3 with p3;subst p3;exact aGl
   have hmm:=hm _ hSH (E7 hs0 aG3);have hbH:H nx=some (.arr (.agg 6) [.agg BV]):=(hkH nx hn4).trans ((hk6 nx hn4).trans hb4);have aW0:nx<nxH:=or;have bAH:M<nxH:=hdH _ _ hMH;refine aue (e3 hbH aW0 hf) ?_;refine aU ((CH _ hSH H nxH M _ _ hMH aWq).dom.mono ?_);rintro v h7 nx7 bAD ⟨⟨rfl,hk7⟩,hd7,_⟩;unfold bQ;refine Zn ?_;have hs7:Kc nx h' h7:=fun k hk=>(hk7 k or).trans ((hkH k or).trans (hs6 k hk));have aFV:=hs7.le hd (Kb _);obtain⟨P2,hP2⟩:∃P,cL (cO (wP f0.r PA.1 S)) r=P:=⟨_,rfl⟩;rw[hP2] at hmm⊢;have aWr:Str cM A:=by have:=d5 (cO S) r;rw[hP] at this;exact this
   have aG5:Str cM P2.1:=by have:=d5 (cO (wP f0.r PA.1 S)) r;rw[hP2] at this;exact this
   have h62:∀t∈P2.1,t.length≤6:=by have:=zb (cO (wP f0.r PA.1 S)) r;rw[hP2] at this;exact this
   have hlA:A.length≤20000:=by have:=d6 (cO S) r;rw[hP] at this;exact this
   have hlB:P2.1.length≤20000:=by have:=d6 (cO (wP f0.r PA.1 S)) r;rw[hP2] at this;exact this
   obtain⟨Bl,e2n⟩:=P2;dsimp only at hmm aG5 h62 hlB⊢;have aGj:=eK e2n;by_cases hz3:e2n=0
   ·rw[decide_eq_true hz3] at aGj;subst hz3;have hin:∀t∈A,t∈Bl:=by
     rcases hmm with q|q|q|q
     ·exact q.2
     ·cases q
     ·cases q
     cases q
    obtain⟨oB,hoB⟩:=eH .leaf (Bl.map fun t=>vls .free t);rw[hoB];have aPS:(Bl.map fun t=>vls .free t).length=Bl.length:=jK ..;refine aue (e2 aGj hml) ?_;have aHM:∀t∈A.drop 0,t∈Bl.drop 0:=hin;clear hm hmm aVo CH CA hRQ hTQ hin
    refine aQ (fun q:Nat×Nat=>aD 128 0 [(6, .bool false),(17, .sl .leaf oB (Bl.map fun t=>vls .free t)),(18, .int .i64 q.2),(102, .sl .leaf oA (A.map fun t=>vls .free t)),(103, .int .i64 A.length),(104, .int .i64 q.1)])
     (fun q hp nx1=>q.1≤A.length∧q.2≤Bl.length∧nx7≤nx1∧aV hp nx1∧Kc nx7 h7 hp∧∀t∈A.drop q.1,t∈Bl.drop q.2)
     (fun q=>A.length-q.1) (0,0) ⟨Kx _,Kx _,Kp _,hd7,Hp.same.aAz,aHM⟩ (by simp only[WkL,aD,jH,jI,jJ,hml,go_sem,reduceIte,jA,jB,jC,jD,reduceCtorEq,jE,jF]) ?_
    clear aHM;rintro⟨i,k⟩ hp nx8 ⟨hi,hk,hnx,hdm,hsm,hinv⟩;generalize hQ:bB _ _ _ _ _=Q0;dsimp only at hi hk hinv;refine Zk ?_;rcases Kw i A.length with hlt|hge
    ·have hc:decide ((i:Int)<(A.length:Int))=true:=dct;have hg:=aN (fun t=>vls .free t) A i hlt;have hw:IntKind.i64.wrap ((i:Int)+1)=((i+1:Nat):Int):=wrp;refine aue (e4 hc hg hlt hml) ?_
     refine aQ (fun k:Nat=>aD 128 0 [(6, .bool false),(17, .sl .leaf oB (Bl.map fun t=>vls .free t)),(18, .int .i64 k),(20,vls .free A[i]),(102, .sl .leaf oA (A.map fun t=>vls .free t)),(103, .int .i64 A.length),(104, .int .i64 i)])
      (fun k hp nx1=>k≤Bl.length∧nx7≤nx1∧aV hp nx1∧Kc nx7 h7 hp∧∀t∈A.drop i,t∈Bl.drop k)
      (fun k=>Bl.length-k) k ⟨hk,Zw,hdm,hsm,hinv⟩ (by simp only[WkL,aD,jH,jI,jJ,hml,go_sem,reduceIte,jA,jB,jC,jD,reduceCtorEq,jE,jF]) ?_
     clear hinv hdm hsm hnx hk;rintro k hp nx8 ⟨hk,hnx,hdm,hsm,hinv⟩;generalize hQ2:bB _ _ _ _ _=Q2;refine Zk ?_;have hAi:A[i]∈A.drop i:=by rw[Km hlt];exact List.mem_cons_self
     rcases Kw k Bl.length with hkl|hkg
     ·have hck:decide ((k:Int)<(Bl.length:Int))=true:=dct;have hgk:=aN (fun t=>vls .free t) Bl k hkl;have hwk:IntKind.i64.wrap ((k:Int)+1)=((k+1:Nat):Int):=wrp;have CT:=fun h=>sD .free .free Bl[k] A[i] (by have:=h62 Bl[k] (List.getElem_mem hkl);omega) h;by_cases he:Bl[k]=A[i]
      ·rw[decide_eq_true he] at CT;have hne:((k:Int)==(Bl.length:Int))=false:=bqf;refine aue (e5 hck hgk hkl aPS jG) ?_;refine aI (CT _) rfl (aH _) ?_;refine au ?_;rw[←hQ2];refine aue (e3 hne aPS hw) ?_;rw[←hQ];refine aF (i+1,k) Zw ⟨hlt,hk,hnx,hdm,hsm,fun t ht=>hinv t ?_⟩ (by simp only[WkL,aD,jH,jI,jJ,hw,go_sem,reduceIte,jA,jB,jC,jD,reduceCtorEq,jE,jF]);rw[Km hlt];exact List.mem_cons_of_mem _ ht
      rw[decide_eq_false he] at CT;refine aue (e5 hck hgk hkl aPS jG) ?_;refine aI (CT _) rfl (aH _) ?_;refine aue hwk ?_;rw[←hQ2];exact aF (k+1) or ⟨hkl,hnx,hdm,hsm,C8 aWr aG5 hlt hkl he hinv⟩ (by simp only[WkL,aD,jH,jI,jJ,hwk,go_sem,reduceIte,jA,jB,jC,jD,reduceCtorEq,jE,jF])
     have:=hinv _ hAi;rw[List.drop_of_length_le or] at this;cases this
    have hc:decide ((i:Int)<(A.length:Int))=false:=dcf;refine aue (e2 hc hml) ?_;rw[←hQ];refine au ?_;exact aC h' ((show Kc nx h' hp from fun m hm=>(hsm m or).trans (hs7 m hm)).le hd (Kb _)) ⟨rfl,rfl⟩
   rw[decide_eq_false hz3] at aGj;have hx:e2n=7∨e2n=10∨e2n=11:=hmm.resolve_left fun q=>hz3 q.1;rcases hx with rfl|rfl|rfl
   ·have C1:∀h,aL Tryz.prog 26 [dO 7, .int .i64 10] h (.bool false):=iJ 7 10;have C2:∀h,aL Tryz.prog 26 [dO 7, .int .i64 11] h (.bool false):=iJ 7 11;have C3:∀h,aL Tryz.prog 26 [dO 7, .int .i64 7] h (.bool true):=iJ 7 7;refine aue aGj ?_;exact aC h' aFV ⟨rfl,rfl⟩
   ·have C1:∀h,aL Tryz.prog 26 [dO 10, .int .i64 10] h (.bool true):=iJ 10 10;refine aue aGj ?_;exact aC h' aFV ⟨rfl,rfl⟩
   have C1:∀h,aL Tryz.prog 26 [dO 11, .int .i64 10] h (.bool false):=iJ 11 10;have C2:∀h,aL Tryz.prog 26 [dO 11, .int .i64 11] h (.bool true):=iJ 11 11;refine aue aGj ?_;exact aC h' aFV ⟨rfl,rfl⟩
  rw[decide_eq_false hz2] at aOp;refine aue aOp ?_;rw[←hRQ];refine au ?_;exact aC h' (hs6.le hd (Kb _)) ⟨rfl,rfl⟩
 rw[decide_eq_false hz] at hve;have hA0:=aFc hz;subst hA0;have hl0:((0:Int)==0)=true:=rfl;refine aue (e3 hve hml hl0) ?_;exact aC h' aCJ ⟨rfl,rfl⟩
end Go.Proofs.YtlhedpgobaellaaGreatDoor
