/-
Texts of this proof,one behind the other. No conditions.
-/
import Derived.Test.YtlhedpgobaellaaGreatDoorKha
import Derived.Test.YtlhedpgobaellaaGreatDoorKfb
open Go.Proofs.YtlhedpgobaellaaGreatDoor.Hp renaming le_refl→Ka,set→Kb
open List renaming mem_map→Kc,map_append→Kd,map_cons→Ke,mem_cons→Kf,length_nil→Kg,length_append→Ki,mem_singleton→Kj,map_nil→Kk,length_cons→Km,replicate_succ→Kq,replicate_zero→Ks,cons_append→Ku,take_of_length_le→Kv,nil_append→Kw,nodup_append→Kx,mem_append→KB,nodup_cons→KC
open Go.IntKind renaming wrap→Kh
open Nat renaming reduceAdd→Ko,reduceSub→Kp,reduceLeDiff→Ky,reduceEqDiff→Kz,reduceLT→KE,zero_le→KF,le_refl→KG
open Prod renaming fst→Kt
open Int renaming reduceToNat→KD
open Option renaming map→KH
open Nat renaming reduceAdd→jA,reduceSub→jB,reduceLT→jC,reduceLeDiff→jD,reduceEqDiff→jE
open Int renaming reduceToNat→jF,toNat_natCast→jG,natCast_add→jH,natCast_one→jI,natCast_zero→jJ
open List renaming length_map→jK,length_cons→jL,length_nil→jM,cons_append→jP
set_option linter.all false
set_option maxHeartbeats 8000000
namespace Go.Proofs.YtlhedpgobaellaaGreatDoor
open Go.RowKit Go.Sort
attribute [local irreducible] Kh
def wq:Vl:=⟨0,0,⟨#[]⟩⟩
def cN(t:Tr)(l:List Tr):Vl×Int:=
 if t.x.size=0 then (if bK t.w=true then (t.w,0) else (wq,2))
 else match lkB t.x l with
  |some w=>if bK w=true then (w,0) else (wq,13)
  |none=>(wq,13)
theorem gy(t:Tr)(l:List Tr)(n:Nat)(es:List ME)(c:Nat)(h:Hp)(hm:h n=some (.mp es c))(he:ij es l):aL Tryz.prog 48 [t.v, .map n] h (.tup [(cN t l).1.v,dO (cN t l).2]):=by
 refine aJ (fun L=>⟨Vl.aAO L _,fF L _,trivial⟩) fun h' nx hh=>aB L.aY4 fun hd=>?_;refine ZK ?_;have hn1:=hh _ _ hm rfl;have hn2:n<nx:=hd _ _ hn1;have h0:=wR t.x;unfold cN;by_cases h1:t.x.size=0
 ·have g1:decide (t.x.size=0)=true:=dct;rw[if_pos h1];have C1:∀h,aL Tryz.prog 94 [.agg [.int .i64 t.w.k, .int .i64 t.w.n, .str t.w.s]] h (.bool (bK t.w)):=fun h=>iG t.w h;cases k:bK t.w with
  |true=>
   rw[k] at C1;refine aue (e3 Tr.v.eq_1 h0 g1) ?_;refine bJ (by simp only[go_sem,reduceIte,jA,jB,jC,jD,reduceCtorEq,jE,jF]) h' (leo hd) ⟨?_,rfl⟩;refine Zn ?_;rfl
  |false=>
   rw[k] at C1;refine aue (e3 Tr.v.eq_1 h0 g1) ?_;refine bJ (by simp only[go_sem,reduceIte,jA,jB,jC,jD,reduceCtorEq,jE,jF]) h' (leo hd) ⟨?_,rfl⟩;refine Zn ?_;rfl
 have g1:decide (t.x.size=0)=false:=dcf;rw[if_neg h1];have hx:=he t.x;cases k:lkB t.x l with
 |none=>
  rw[k] at hx;have hg0:iY true (.agg [.int .i64 0, .int .i64 0, .str ⟨#[]⟩]) es none= .tup [.agg [.int .i64 0, .int .i64 0, .str ⟨#[]⟩], .bool false]:=rfl;refine aue (e7 Tr.v.eq_1 h0 g1 hn1 hn2 hx hg0) ?_;refine bJ (by simp only[go_sem,reduceIte,jA,jB,jC,jD,reduceCtorEq,jE,jF]) h' (leo hd) ⟨?_,rfl⟩;refine Zn ?_;rfl
 |some w=>
  rw[k] at hx;obtain⟨j,hj1,hj2,hj3⟩:=hx;have hg0:iY true (.agg [.int .i64 0, .int .i64 0, .str ⟨#[]⟩]) es (some j)= .tup [w.v, .bool true]:=by rw[←hj2];rfl
  have C1:=fun h=>iG w h;have hwf:=Vl.aAD w;simp only;cases k2:bK w with
  |true=>
   rw[k2] at C1;refine aue (e8 Tr.v.eq_1 h0 g1 hn1 hn2 hj1 hg0 hwf) ?_;refine bJ (by simp only[hwf,bU hwf,go_sem,reduceIte,jA,jB,jC,jD,reduceCtorEq,jE,jF]) h' (leo hd) ⟨?_,rfl⟩;simp only[hwf,bU hwf,go_sem,reduceIte,jA,jB,jC,jD,reduceCtorEq,jE,jF];rfl
  |false=>
   rw[k2] at C1;refine aue (e8 Tr.v.eq_1 h0 g1 hn1 hn2 hj1 hg0 hwf) ?_;refine bJ (by simp only[go_sem,reduceIte,jA,jB,jC,jD,reduceCtorEq,jE,jF]) h' (leo hd) ⟨?_,rfl⟩;refine Zn ?_;rfl
def kT(l:List Tr):List Vl→List Tr→List Vl×Int
 |acc,[]=>(acc,0)
 |acc,t::r=>if (cN t l).2≠0 then ([],(cN t l).2) else kT l (acc++[(cN t l).1]) r
def cV(a:Am)(l:List Tr):List Vl×Int:=if 6<a.l.length then ([],6) else kT l [] a.l
def okO(e:Int)(o:Own):Own:=if e=0 then o else .nil
theorem iC(l:List Tr)(acc:List Vl)(t:Tr)(r:List Tr):kT l acc (t::r)=if (cN t l).2≠0 then ([],(cN t l).2) else kT l (acc++[(cN t l).1]) r:=rfl
theorem v6(e:Int)(vs:List Vl)(L:Nat→Prop):(V.tup [.sl (.agg 3) (okO e .free) (vs.map Vl.v),dO e]).names L:=by
 refine⟨⟨?_,cQ (fun x=>Vl.aAO L x) _⟩,fF L _,trivial⟩;intro n k;unfold okO at k;split at k<;>cases k
theorem gp(a:Am)(l:List Tr)(n:Nat)(es:List ME)(c:Nat)(h:Hp)(hm:h n=some (.mp es c))(he:ij es l):aL Tryz.prog 12 [a.v, .map n] h (.tup [.sl (.agg 3) (okO (cV a l).2 .free) ((cV a l).1.map Vl.v),dO (cV a l).2]):=by
 refine mG (fun L=>v6 _ _ L) fun h' nx hh=>aB L.g6z fun hd=>?_;obtain⟨r,o,ts⟩:=a;refine ZK ?_;have hn1:=hh _ _ hm rfl;have hn2:n<nx:=hd _ _ hn1;unfold cV;dsimp only;by_cases h6:6<ts.length
 ·have g1:decide ((6:Int)<(ts.length:Int))=true:=dct;rw[if_pos h6];refine aue (e4 Am.v.eq_1 trs.eq_1 g1 (@jK Tr V)) ?_;refine aO _ (Ka _) ⟨?_,leo hd⟩;refine Zn ?_;rfl
 have g1:decide ((6:Int)<(ts.length:Int))=false:=dcf;rw[if_neg h6];refine aue (e4 Am.v.eq_1 trs.eq_1 g1 (@jK Tr V)) ?_;generalize hRC:kQ (lwp Tryz.prog ((aS.ops L.aEf).seq aS.ret)) _=RC
 refine aQ (fun q:Nat×Nat×List Vl=>aD 42 0 [(1, .map n),(4, .sl (.agg 3) .nil []),(5, .nilIface),(6, .rs q.2.1 (.agg 3) 0 q.2.2.length),(21, .sl (.agg 4) o (ts.map Tr.v)),(22, .int .i64 ts.length),(23, .int .i64 q.1)])
  (fun q hp nx1=>q.1≤ts.length∧nx+1≤nx1∧aV hp nx1∧Hp.same nx h' hp∧(nx<q.2.1∧hp q.2.1=some (.arr (.agg 3) (q.2.2.map Vl.v)))∧kT l [] ts=kT l q.2.2 (ts.drop q.1)∧q.2.2.length≤q.1)
  (fun q=>ts.length-q.1) (0,nx+1,[]) ⟨KF _,Zw,by exact dmo hd,by exact kep Hp.same.aAz,⟨Zw,by simp only[Kk,go_sem,reduceIte,jA,jB,jC,jD,reduceCtorEq,jE,jF]⟩,rfl,KF _⟩ (by simp only[WkL,aD,jH,jI,jJ,jM,go_sem,reduceIte,jA,jB,jC,jD,reduceCtorEq,jE,jF]) ?_
 rintro⟨i,id,acc⟩ hp nx1 ⟨hi,hnx,hdm,hsm,⟨aXC,hid⟩,hmk,hlen⟩;generalize hQ:bB _ _ _ _ _=Q0;dsimp only at hi hid hmk hlen aXC;refine Zk ?_;have hle:=hsm.le hd (Ka _);have hme:hp n=some (.mp es c):=by rw[hsm n hn2];exact hn1
 have aPZ:id<nx1:=hdm _ _ hid;rcases Nat.lt_or_ge i ts.length with hlt|hge
 ·have hc:decide ((i:Int)<(ts.length:Int))=true:=dct;have hg:=aN Tr.v ts i hlt;have hw:IntKind.i64.wrap ((i:Int)+1)=((i+1:Nat):Int):=wrp;have hdr:ts.drop i=ts[i]::ts.drop (i+1):=List.drop_eq_getElem_cons hlt;have hn3:n<nx1:=or;rw[hdr] at hmk;generalize ts[i]=T at hg hmk;have hTf:=Tr.aAD T;have hVf:=Vl.aAD (cN T l).1;refine aue (e9 hc hg hlt hme hn3 (@jK Tr V) jG hw hTf) ?_;refine aI (gy T l n es c _ (by simp only[hme,hn3,go_sem,reduceIte,jA,jB,jC,jD,reduceCtorEq,jE,jF]) he) rfl (aH _) ?_;refine Zn ?_;rw[iC] at hmk;by_cases hz:(cN T l).2=0
  ·rw[if_neg (by simp[hz])] at hmk;rw[hz];have hml:(acc.map Vl.v).length=acc.length:=jK ..;have htk:(acc.map Vl.v).take acc.length=acc.map Vl.v:=Kv Zm;have aPl:acc.length≤1000000:=or;refine aue (e9 Er hVf hw hid aPZ hml htk aPl hc) ?_;rw[←hQ];exact aF (i+1,nx1+5,acc++[(cN T l).1]) Zw ⟨hlt,or,dmo hdm,kep hsm,⟨Zw,by simp only[Kd,Ke,Kk,go_sem,reduceIte,jA,jB,jC,jD,reduceCtorEq,jE,jF]⟩,hmk,by dsimp only;rw[Ki];simp only[jL,jM];omega⟩ (by simp only[WkL,aD,jH,jI,jJ,Ki,jL,jM,go_sem,reduceIte,jA,jB,jC,jD,reduceCtorEq,jE,jF])
  rw[if_pos hz] at hmk;have hev:dO (cN T l).2= .iface 93 (.int .i64 (cN T l).2):=by unfold dO;rw[if_neg hz]
  refine aue (e2 hev hVf) ?_;rw[←hQ,←hRC];refine au ?_;refine aO _ (Ka _) ⟨?_,lef hd hle⟩;refine Zn ?_;rw[hmk];unfold okO;rw[if_neg hz,hev];rfl
 have hc:decide ((i:Int)<(ts.length:Int))=false:=dcf;refine aue hc ?_;rw[←hQ];refine au ?_;have hie:i=ts.length:=or;rw[hie,List.drop_length] at hmk;simp only[kT] at hmk;rw[←hRC];refine dD (pS (t:=6) (n:=id) (k:= .agg 3) (off:=0) (len:=acc.length) (es:=acc.map Vl.v) rfl hid Zm) ?_;have htk:(List.drop 0 (acc.map Vl.v)).take acc.length=acc.map Vl.v:=by rw[List.drop_zero];exact Kv Zm
 rw[htk];refine au ?_;refine aO _ (Ka _) ⟨?_,?_⟩
 ·refine Zn ?_;rw[hmk];rfl
 refine fun m b e=>?_;have:=hd _ _ e;simp only[Hp.del];rw[if_neg or];exact hle m b e
end Go.Proofs.YtlhedpgobaellaaGreatDoor
namespace Go.Proofs.YtlhedpgobaellaaGreatDoor
open Go.RowKit Go.Sort
attribute [local irreducible] Kh
def nY(a:Am):List (List Vl)→List (List Tr)→List (List Vl)×Int
 |acc,[]=>(acc,0)
 |acc,l::r=>if (cV a l).2≠0 then ([],(cV a l).2) else nY a (acc++[(cV a l).1]) r
theorem sX(a:Am)(acc:List (List Vl))(l:List Tr)(r:List (List Tr)):nY a acc (l::r)=if (cV a l).2≠0 then ([],(cV a l).2) else nY a (acc++[(cV a l).1]) r:=rfl
theorem k8(l:List Tr):∀(ts:List Tr) (acc:List Vl),(kT l acc ts).1.length≤acc.length+ts.length
 | [],acc=>by simp[kT]
 |t::r,acc=>by
  rw[iC];split
  ·simp
  have:=k8 l r (acc++[(cN t l).1]);simp only[Ki,Km,Kg] at this⊢;omega
theorem ld(a:Am)(l:List Tr):(cV a l).1.length≤6:=by
 unfold cV;split
 ·simp
 have:=k8 l a.l [];simp only[Kg] at this;omega
end Go.Proofs.YtlhedpgobaellaaGreatDoor
namespace Go.Proofs.YtlhedpgobaellaaGreatDoor
open Go.RowKit Go.Sort
attribute [local irreducible] Kh
structure EE where
 x:ByteArray
 w:Vl
 b:Nat
def EE.me(e:EE):ME:=⟨.str e.x,e.w.v,e.b⟩
def EE.p(e:EE):ByteArray×Vl:=(e.x,e.w)
def Ag(es:List ME)(c:Nat)(L:List EE):Prop:=es=L.map EE.me∧(L.map EE.b).Nodup∧∀e∈L,e.b<c
def lkP(x:ByteArray):List (ByteArray×Vl)→Option Vl
 | []=>none
 |a::r=>if a.1=x then some a.2 else lkP x r
theorem AM(x:ByteArray)(a:ByteArray×Vl):∀l,lkP x (l++[a])=(match lkP x l with
 |some w=>some w
 |none=>if a.1=x then some a.2 else none)
 | []=>by simp[lkP]
 |b::l=>by
  simp only[jP,lkP];split
  ·rfl
  exact AM x a l
theorem DX{x:ByteArray}:∀{l:List (ByteArray×Vl)},(∀e∈l,e.1≠x)→lkP x l=none
 | [],_=>rfl
 |b::l,h=>by
  unfold lkP;rw[if_neg (h b List.mem_cons_self)];exact DX fun e he=>h e (List.mem_cons_of_mem _ he)
theorem ta{x:ByteArray}:∀{l:List (ByteArray×Vl)},lkP x l=none→∀e∈l,e.1≠x
 |b::l,h,e,he=>by
  unfold lkP at h;split at h
  ·cases h
  rename_i hb;rcases Kf.1 he with rfl|he
  ·exact hb
  exact ta h e he
def tO(es:List ME)(c:Nat)(l:List Tr):Prop:=∃L:List EE,Ag es c L∧(L.map EE.x).Nodup∧∀x,lkP x (L.map EE.p)=lkB x l
theorem EL(x:ByteArray):∀L:List EE,(match lkP x (L.map EE.p) with
 |none=>bM (.plain .leaf [.str]) (.str x) (L.map EE.me)=some none
 |some w=>∃j,bM (.plain .leaf [.str]) (.str x) (L.map EE.me)=some (some j)∧((L.map EE.me).getD j default).v=w.v∧j<(L.map EE.me).length)
 | []=>rfl
 |e::L=>by
  have ih:=EL x L;simp only[Ke,lkP,bM,EE.me,EE.p];rw[zL];by_cases h:e.x=x
  ·rw[if_pos h,decide_eq_true h.symm];exact⟨0,rfl,rfl,Zm⟩
  rw[if_neg h,decide_eq_false (fun q=>h q.symm)];cases hk:lkP x (L.map EE.p) with
  |none=>
   rw[hk] at ih;show KH _ (bM _ _ (L.map EE.me))=_;rw[ih];rfl
  |some w=>
   rw[hk] at ih;obtain⟨j,h1,h2,h3⟩:=ih;refine⟨j+1,?_,h2,by simpa using h3⟩;show KH _ (bM _ _ (L.map EE.me))=_;rw[h1];rfl
theorem tO.at{es:List ME}{c:Nat}{l:List Tr}(h:tO es c l):ij es l:=fun x=>by
 obtain⟨L,⟨rfl,_,_⟩,_,hl⟩:=h;rw[←hl x];exact EL x L
theorem Es:tO [] 0 []:=⟨[],⟨rfl,Zm,Zm⟩,Zm,fun x=>rfl⟩
theorem Ag.add{es:List ME}{c:Nat}{L:List EE}(h:Ag es c L)(x:ByteArray)(w:Vl):Ag (es++[⟨.str x,w.v,c⟩]) (c+1) (L++[⟨x,w,c⟩]):=by
 obtain⟨rfl,h2,h3⟩:=h;refine⟨by rw[Kd];rfl,?_,fun e he=>?_⟩
 ·rw[Kd,Kx];refine⟨h2,Zm,fun a ha b hb=>?_⟩;obtain⟨e,he,rfl⟩:=Kc.1 ha;simp only[Ke,Kk,Kj] at hb;subst hb;have:=h3 e he;omega
 rcases KB.1 he with he|he
 ·have:=h3 e he;omega
 rw[Kj] at he;subst he;exact Nat.lt_succ_self c
theorem tO.add{es:List ME}{c:Nat}{l:List Tr}(h:tO es c l)(t:Tr)(hn:lkB t.x l=none):tO (es++[⟨.str t.x,t.w.v,c⟩]) (c+1) (l++[t]):=by
 obtain⟨L,hL,hx,hl⟩:=h;have hno:∀e∈L,e.x≠t.x:=fun e he=>ta ((hl t.x).trans hn) e.p (Kc.2 ⟨e,he,rfl⟩);refine⟨L++[⟨t.x,t.w,c⟩],hL.add t.x t.w,?_,fun x=>?_⟩
 ·rw[Kd,Kx];refine⟨hx,Zm,fun a ha b hb=>?_⟩;obtain⟨e,he,rfl⟩:=Kc.1 ha;simp only[Ke,Kk,Kj] at hb;subst hb;exact hno e he
 rw[Kd,Ke,Kk,AM,zQ,←hl x];rfl
theorem DV{A B:List (ByteArray×Vl)}(h:A.Perm B)(hn:(A.map Kt).Nodup)(x:ByteArray):lkP x A=lkP x B:=by
 have key:∀{C:List (ByteArray×Vl)},(C.map Kt).Nodup→∀w,lkP x C=some w↔(x,w)∈C:=by
  intro C hC w;induction C with
  |nil=>simp[lkP]
  |cons a C ih=>
   rw[Ke,KC] at hC;unfold lkP;split
   ·rename_i e;simp only[Option.some.injEq,Kf];constructor
    ·rintro rfl;exact .inl (by rw[←e])
    rintro(h|h)
    ·rw[←h]
    exact absurd (Kc.2 ⟨_,h,rfl⟩) (by rw[e] at hC;exact hC.1)
   rename_i e;rw[ih hC.2,Kf];exact⟨.inr,fun h=>h.elim (fun h=>absurd (by rw[←h]) e) id⟩
 have hn2:(B.map Kt).Nodup:=(h.map Kt).nodup_iff.1 hn;cases hA:lkP x A with
 |some w=>exact((key hn2 w).2 (h.mem_iff.1 ((key hn w).1 hA))).symm
 |none=>
  cases hB:lkP x B with
  |none=>rfl
  |some w=>rw[(key hn w).2 (h.mem_iff.2 ((key hn2 w).1 hB))] at hA;cases hA
theorem Et:∀{l:List EE},(l.map EE.x).Nodup→∀{a b:EE},a∈l→b∈l→a.x=b.x→a=b
 |c::l,hn,a,b,ha,hb,h=>by
  rw[Ke,KC] at hn;rcases Kf.1 ha with rfl|h1
  ·rcases Kf.1 hb with rfl|h2
   ·rfl
   exact absurd (Kc.2 ⟨b,h2,h.symm⟩) hn.1
  rcases Kf.1 hb with rfl|h2
  ·exact absurd (Kc.2 ⟨a,h1,h⟩) hn.1
  exact Et hn.2 h1 h2 h
theorem su(m n:Nat)(es0:List ME)(c0:Nat)(L0:List EE)(h0:Ag es0 c0 L0)(hx0:(L0.map EE.x).Nodup)(h:Hp)(nx:Nat)(hmn:m≠n)(hm:h m=some (.mp es0 c0))(hn:h n=some (.mp [] 0)):
 aR Tryz.prog 193 [.map n, .map m] h nx fun v h' nx'=>∃es c L,h' n=some (.mp es c)∧Ag es c L∧(L.map EE.p).Perm (L0.map EE.p)∧∀k,k<nx→k≠n→h' k=h k:=by
 refine aB L.aVR fun hd=>?_;refine ZK ?_;have hmx:=hd _ _ hm;have hnx:=hd _ _ hn;obtain⟨rfl,hb0,hc0⟩:=h0;refine au ?_;refine sx rfl hm ?_;refine au ?_
 refine aQ (fun q:List EE×List EE×List ME×Nat=>aD 16 0 [(0, .map n),(7, .ptr nx .leaf 0 0)])
  (fun q hp nx1=>nx<nx1∧hp m=some (.mp (L0.map EE.me) c0)∧hp nx=some (.mit m c0 (q.1.map EE.b) c0)∧hp n=some (.mp q.2.2.1 q.2.2.2)∧Ag q.2.2.1 q.2.2.2 q.2.1∧q.2.1.map EE.p=q.1.map EE.p∧(q.1.map EE.b).Nodup∧(∀y∈q.1,y∈L0)∧∀k,k<nx→k≠n→hp k=h k)
  (fun q=>L0.length-q.1.length) ([],[],[],0) ⟨Zw,by simp only[hm,(fls:(m=nx)=False),go_sem,reduceIte,jA,jB,jC,jD,reduceCtorEq,jE,jF],by simp only[go_sem,reduceIte,jA,jB,jC,jD,reduceCtorEq,jE,jF],by simp only[hn,(fls:(n=nx)=False),go_sem,reduceIte,jA,jB,jC,jD,reduceCtorEq,jE,jF],⟨rfl,Zm,Zm⟩,rfl,Zm,Zm,fun k hk _=>by simp only[Kb];rw[if_neg or]⟩ (by simp only[WkL,aD,jH,jI,jJ,go_sem,reduceIte,jA,jB,jC,jD,reduceCtorEq,jE,jF]) ?_
 rintro⟨js,L,es,c⟩ hp nx1 ⟨q1,q2,q3,q4,q5,q6,q7,q8,q9⟩;generalize hQ:bB _ _ _ _ _=Q0;dsimp only at q3 q4 q5 q6 q7 q8;refine Zk ?_;refine au ?_;refine s5 rfl q3 q2 (fun e he=>by obtain⟨y,hy,rfl⟩:=Kc.1 he;exact hc0 y hy) (KG _) ?_ ?_
 ·intro e he hns;obtain⟨y,hy,rfl⟩:=Kc.1 he;have hns:y.b∉js.map EE.b:=hns;have hno:∀z∈js,z.x≠y.x:=fun z hz e=>hns (by rw[←Et hx0 (q8 z hz) hy e];exact Kc.2 ⟨z,hz,rfl⟩);have hf:bM (.plain .leaf [.str]) (.str y.x) es=some none:=by
   have:=EL y.x L;rw[←q5.1,q6,DX (fun e he=>by obtain⟨z,hz,rfl⟩:=Kc.1 he;exact hno z hz)] at this;exact this
  have hwf:=Vl.aAD y.w;simp only[EE.me];refine au ?_;refine s7 (b:=y.b) (e:=y.me) (m:=m) (since:=c0) (c:=c0) (es:=L0.map EE.me) (seen:=js.map EE.b++[y.b]) rfl (by simp only[go_sem,reduceIte,jA,jB,jC,jD,reduceCtorEq,jE,jF]) (by simp only[q2,(fls:(m=nx)=False),go_sem,reduceIte,jA,jB,jC,jD,reduceCtorEq,jE,jF]) Zm (AV EE.me (by exact hb0) hy) ?_;simp only[EE.me];refine aue hwf ?_;refine kB (es:=es) (c:=c) (n:=n) rfl rfl (by simp only[q4,(fls:(n=nx)=False),(fls:(n=nx1+1)=False),(fls:(n=nx1+2)=False),(fls:(n=nx1)=False),go_sem,reduceIte,jA,jB,jC,jD,reduceCtorEq,jE,jF]) hf ?_;refine Zn ?_;refine au ?_;rw[←hQ];have aG7:=kz EE.b q7 q8 hy hns;refine aF (js++[y],L++[⟨y.x,y.w,c⟩],es++[⟨.str y.x,y.w.v,c⟩],c+1) (by dsimp only;rw[Ki,jL,jM];omega) ⟨or,?_,?_,by simp only[go_sem,reduceIte,jA,jB,jC,jD,reduceCtorEq,jE,jF],q5.add y.x y.w,by rw[Kd,Kd,q6];rfl,by exact cq EE.b q7 hns,fun z hz=>?_,fun k hk hkn=>?_⟩ (by simp only[WkL,aD,jH,jI,jJ,go_sem,reduceIte,jA,jB,jC,jD,reduceCtorEq,jE,jF])
  ·simp only[q2,(fls:(m=n)=False),(fls:(m=nx)=False),(fls:(m=nx1+2)=False),go_sem,reduceIte,jA,jB,jC,jD,reduceCtorEq,jE,jF]
  ·simp only[(fls:(nx=n)=False),(fls:(nx=nx1+2)=False),Kd,Ke,Kk,go_sem,reduceIte,jA,jB,jC,jD,reduceCtorEq,jE,jF]
  ·rcases KB.1 hz with hz|hz
   ·exact q8 z hz
   rw[Kj] at hz;subst hz;exact hy
  simp only[Kb];rw[if_neg hkn,if_neg or,if_neg or,if_neg or];exact q9 k hk hkn
 intro aAZ;refine au ?_;rw[←hQ];refine au ?_;refine⟨hp,Ka _,es,c,L,q4,q5,?_,q9⟩;rw[q6];exact(AF EE.b hb0 q7 q8 fun y hy=>aAZ y.me (Kc.2 ⟨y,hy,rfl⟩)).map _
theorem nJ(m:Nat)(es0:List ME)(c0:Nat)(l:List Tr)(h0:tO es0 c0 l)(h:Hp)(nx:Nat)(hm:h m=some (.mp es0 c0)):
 aR Tryz.prog 126 [.map m] h nx fun v h' nx'=>∃n es c,v= .map n∧nx≤n∧n<nx'∧h' n=some (.mp es c)∧tO es c l∧∀k,k<nx→h' k=h k:=by
 refine aB L.aYM fun hd=>?_;have hmx:=hd _ _ hm;obtain⟨L0,hL,hx,hl⟩:=h0;have e:∀L:List EE,(L.map EE.p).map Kt=L.map EE.x:=fun L=>by rw[List.map_map];rfl
 refine ZK ?_;refine au ?_;refine oF ?_;refine au ?_;refine aU ((su m nx es0 c0 L0 hL hx _ (nx+1) or (by simp only[hm,(fls:(m=nx)=False),go_sem,reduceIte,jA,jB,jC,jD,reduceCtorEq,jE,jF]) (by simp only[go_sem,reduceIte,jA,jB,jC,jD,reduceCtorEq,jE,jF])).dom.mono ?_);rintro v h2 nx2 hle ⟨⟨es,c,L,p1,p2,p3,p4⟩,hd2,_⟩;unfold bQ;refine Zn ?_;refine au ?_;refine aC h2 (Ka _) ⟨nx,es,c,rfl,KG _,Zw,p1,⟨L,p2,?_,fun x=>?_⟩,fun k hk=>?_⟩
 ·have:=(p3.map Kt).nodup_iff;rw[e,e] at this;exact this.2 hx
 ·rw[←hl x];exact DV p3 (by
   have:=(p3.map Kt).nodup_iff;rw[e,e] at this;rw[e];exact this.2 hx) x
 rw[p4 k or or];simp only[Kb];rw[if_neg or]
def jT(p:Vl×Int):Int×Int:=if p.2≠0 then (0,p.2) else if p.1.k≠1 then (0,7) else (p.1.n,0)
def opB(op a b:Int):Int:=if op=1 then a+b else if op=2 then a-b else a*b
def bO(l:List Tr):Nat→Ex→Vl×Int
 |0, .mk _ t _ _=>cN t l
 |n+1, .mk op t _ ks=>if op=0 then cN t l else match ks with
  | [a,b]=>if (jT (bO l n a)).2≠0 then (xX,(jT (bO l n a)).2) else if (jT (bO l n b)).2≠0 then (xX,(jT (bO l n b)).2) else ofV (opB op (jT (bO l n a)).1 (jT (bO l n b)).1)
  |_=>(xX,0)
theorem qw{t:Tr}{l:List Tr}(h:(cN t l).2=0):bK (cN t l).1=true:=by
 unfold cN at h⊢;split
 ·rename_i h0;rw[if_pos h0] at h;split
  ·rename_i h1;exact h1
  rename_i h1;rw[if_neg h1] at h;cases h
 rename_i h0;rw[if_neg h0] at h;cases hk:lkB t.x l with
 |none=>rw[hk] at h;cases h
 |some w=>
  rw[hk] at h;simp only at h⊢;split
  ·rename_i h1;exact h1
  rename_i h1;rw[if_neg h1] at h;cases h
theorem Gr{n:Int}(h:(ofV n).2=0):bK (ofV n).1=true:=by
 unfold ofV at h⊢;split
 ·rename_i hb;simp only[bK];rw[hb];rfl
 rename_i hb;rw[if_neg hb] at h;cases h
theorem vY{l:List Tr}:∀{n:Nat} {e:Ex},cH n e=true→(bO l n e).2=0→bK (bO l n e).1=true
 |0, .mk op t o ks,_,h=>qw h
 |n+1, .mk op t o ks,hr,h=>by
  unfold bO at h⊢;unfold cH at hr;by_cases h0:op=0
  ·rw[if_pos h0] at h⊢;exact qw h
  rw[if_neg h0] at h hr⊢;match ks,hr with
  | [a,b],_=>
   simp only at h⊢;split
   ·rename_i h1;rw[if_pos h1] at h;exact absurd h h1
   rename_i h1;rw[if_neg h1] at h;split
   ·rename_i h2;rw[if_pos h2] at h;exact absurd h h2
   rename_i h2;rw[if_neg h2] at h;exact Gr h
theorem AC{l:List Tr}{n:Nat}{e:Ex}(hr:cH n e=true):-2147483647≤(jT (bO l n e)).1∧(jT (bO l n e)).1≤2147483647:=by
 unfold jT;split
 ·simp
 split
 ·simp
 rename_i h _;exact ns (vY hr (Classical.not_not.1 h))
theorem Gv{a b:Int}(a1:-2147483647≤a)(a2:a≤2147483647)(b1:-2147483647≤b)(b2:b≤2147483647):-4611686014132420609≤a*b∧a*b≤4611686014132420609:=by
 have h1:a.natAbs*b.natAbs≤2147483647*2147483647:=Nat.mul_le_mul or or;have h2:(a*b).natAbs=a.natAbs*b.natAbs:=Int.natAbs_mul a b;omega
theorem Gu{a b:Int}(a1:-2147483647≤a)(a2:a≤2147483647)(b1:-2147483647≤b)(b2:b≤2147483647):IntKind.i64.wrap (a*b)=a*b:=by
 have:=Gv a1 a2 b1 b2;exact wrp
theorem Gk(e:Int):veq (zK.iface true) (dO e) V.nilIface=some (decide (e=0)):=by
 unfold dO;split
 ·rename_i h;rw[decide_eq_true h];rfl
 rename_i h;rw[decide_eq_false h];rfl
theorem A6{e:Ex}{p:Vl×Int}{n:Nat}{es:List ME}{c:Nat}{h:Hp}(hm:h n=some (.mp es c))(hE:∀h':Hp,h' n=some (.mp es c)→aL Tryz.prog 46 [e.v, .map n] h' (.tup [p.1.v,dO p.2])):
 aL Tryz.prog 92 [e.v, .map n] h (.tup [.int .i64 (jT p).1,dO (jT p).2]):=by
 refine aJ (fun L=>⟨trivial,fF L _,trivial⟩) fun h' nx hh=>aB L.aYh fun hd=>?_;refine ZK ?_;have hn1:=hh _ _ hm rfl;have hn2:n<nx:=hd _ _ hn1;have C:=hE (h'.set nx (.arr (.agg 6) [e.v])) (by simp only[Kb];rw[if_neg or];exact hn1);have hf:=Ex.aAD e;obtain⟨X,hX⟩:∃X,e.v=X:=⟨_,rfl⟩;rw[hX] at C hf⊢;have hv:=Gk p.2;have hwf:=Vl.aAD p.1;obtain⟨T,hT,hk0,hk1⟩:∃T,p.1.v= .agg T∧T.getD 0 (.tup [])= .int .i64 p.1.k∧T.getD 1 (.tup [])= .int .i64 p.1.n:=⟨_,rfl,rfl,rfl⟩;rw[hT] at C hwf;unfold jT;by_cases h0:p.2=0
 ·rw[decide_eq_true h0] at hv;rw[if_neg (by simp[h0])];by_cases h1:p.1.k=1
  ·have g1:(p.1.k != 1)=false:=bnf;rw[if_neg (by simp[h1])];refine aue hf ?_;refine aI C rfl (aH _) ?_;refine aue (e5 hv hwf hk0 hk1 g1) ?_;exact aO h' (leo hd) ⟨rfl,rfl⟩
  have g1:(p.1.k != 1)=true:=bnt;rw[if_pos h1];refine aue hf ?_;refine aI C rfl (aH _) ?_;refine aue (e5 hv hwf hk0 hk1 g1) ?_;exact aO h' (leo hd) ⟨rfl,rfl⟩
 rw[decide_eq_false h0] at hv;rw[if_pos h0];refine aue hf ?_;refine aI C rfl (aH _) ?_;refine aue (e3 hv hwf hk0) ?_;exact aO h' (leo hd) ⟨rfl,rfl⟩
theorem tL(l:List Tr):∀(k:Nat) (e:Ex),cH k e=true→∀(n:Nat) (es:List ME) (c:Nat) (h:Hp),h n=some (.mp es c)→ij es l→aL Tryz.prog 46 [e.v, .map n] h (.tup [(bO l k e).1.v,dO (bO l k e).2]):=by
 have base:∀(t:Tr) (o:Own) (ks:List Ex) (n:Nat) (es:List ME) (c:Nat) (h:Hp),h n=some (.mp es c)→ij es l→aL Tryz.prog 46 [(Ex.mk 0 t o ks).v, .map n] h (.tup [(cN t l).1.v,dO (cN t l).2]):=by
  intro t o ks n es c h hm he;refine aJ (fun L=>⟨Vl.aAO L _,fF L _,trivial⟩) fun h' nx hh=>aB L.aWF fun hd=>?_;refine ZK ?_;have hn1:=hh _ _ hm rfl;have hn2:n<nx:=hd _ _ hn1;have hev:(Ex.mk 0 t o ks).v= .agg [.int .i64 0, .str t.x, .int .i64 t.w.k, .int .i64 t.w.n, .str t.w.s, .sl (.agg 6) o (ks.map Ex.v)]:=by rw[Ex.aAn];rfl
  rw[hev];have hwf:=Vl.aAD (cN t l).1;have hz:((0:Int)==0)=true:=rfl;have C:∀h,h n=some (.mp es c)→aL Tryz.prog 48 [.agg [.str t.x, .int .i64 t.w.k, .int .i64 t.w.n, .str t.w.s], .map n] h (.tup [(cN t l).1.v,dO (cN t l).2]):=fun h hm=>gy t l n es c h hm he;refine aue hz ?_;refine aI (C _ ?_) rfl (aH _) ?_
  ·simp only[hn1,hn2,go_sem,reduceIte,jA,jB,jC,jD,reduceCtorEq,jE,jF]
  refine aue hwf ?_;refine bJ (by simp only[hwf,bU hwf,go_sem,reduceIte,jA,jB,jC,jD,reduceCtorEq,jE,jF]) h' (leo hd) ⟨?_,rfl⟩;simp only[hwf,bU hwf,go_sem,reduceIte,jA,jB,jC,jD,reduceCtorEq,jE,jF]
 intro k;induction k with
 |zero=>
  rintro⟨op,t,o,ks⟩ hr n es c h hm he;obtain⟨rfl,_⟩:=of_decide_eq_true hr;exact base t o ks n es c h hm he
 |succ k ih=>
  rintro⟨op,t,o,ks⟩ hr n es c h hm he;by_cases h0:op=0
  ·subst h0;unfold bO;rw[if_pos rfl];exact base t o ks n es c h hm he
  unfold cH at hr;unfold bO;rw[if_neg h0] at hr⊢;match ks,hr with
  | [a,b],hr=>
   obtain⟨_,_,_,ha,hb⟩:=of_decide_eq_true hr;simp only;refine aJ (fun L=>⟨Vl.aAO L _,fF L _,trivial⟩) fun h' nx hh=>aB L.aWF fun hd=>?_;refine ZK ?_;have hn1:=hh _ _ hm rfl;have hn2:n<nx:=hd _ _ hn1;have hev:(Ex.mk op t o [a,b]).v= .agg [.int .i64 op, .str t.x, .int .i64 t.w.k, .int .i64 t.w.n, .str t.w.s, .sl (.agg 6) o [a.v,b.v]]:=by rw[Ex.aAn];rfl
   rw[hev];have CA:∀h,h n=some (.mp es c)→aL Tryz.prog 92 [a.v, .map n] h (.tup [.int .i64 (jT (bO l k a)).1,dO (jT (bO l k a)).2]):=fun h hm=>A6 hm fun h' hm'=>ih a ha n es c h' hm' he;have CB:∀h,h n=some (.mp es c)→aL Tryz.prog 92 [b.v, .map n] h (.tup [.int .i64 (jT (bO l k b)).1,dO (jT (bO l k b)).2]):=fun h hm=>A6 hm fun h' hm'=>ih b hb n es c h' hm' he;obtain⟨a1,a2⟩:=AC (l:=l) ha;obtain⟨b1,b2⟩:=AC (l:=l) hb;have hfa:=Ex.aAD a;have hfb:=Ex.aAD b;generalize jT (bO l k a)=pa at*;generalize jT (bO l k b)=pb at*;have va:=Gk pa.2;have vb:=Gk pb.2;have hz:(op==0)=false:=bqf;generalize a.v=A at*;generalize b.v=B at*;refine aue (e2 hz hfa) ?_;refine aI (CA _ ?_) rfl (aH _) ?_
   ·simp only[hn1,hn2,go_sem,reduceIte,jA,jB,jC,jD,reduceCtorEq,jE,jF]
   by_cases ea:pa.2=0
   ·rw[decide_eq_true ea] at va;rw[if_neg (by simp[ea])];refine aue (e3 hz hfb va) ?_;refine aI (CB _ ?_) rfl (aH _) ?_
    ·simp only[hn1,hn2,go_sem,reduceIte,jA,jB,jC,jD,reduceCtorEq,jE,jF]
    by_cases eb:pb.2=0
    ·rw[decide_eq_true eb] at vb;rw[if_neg (by simp[eb])];have C1:=fun h=>CK (opB op pa.1 pb.1) h;have hwf:=Vl.aAD (ofV (opB op pa.1 pb.1)).1;unfold opB at C1 hwf⊢;by_cases o1:op=1
     ·have g1:(op==1)=true:=bqt;rw[if_pos o1] at C1 hwf⊢;have hw:IntKind.i64.wrap (pa.1+pb.1)=pa.1+pb.1:=wrp;refine aue (e4 g1 vb hw hwf) ?_;refine bJ (by simp only[hwf,bU hwf,go_sem,reduceIte,jA,jB,jC,jD,reduceCtorEq,jE,jF]) h' (leo hd) ⟨?_,rfl⟩;simp only[hwf,bU hwf,go_sem,reduceIte,jA,jB,jC,jD,reduceCtorEq,jE,jF]
     have g1:(op==1)=false:=bqf;rw[if_neg o1] at C1 hwf⊢;by_cases o2:op=2
     ·have g2:(op==2)=true:=bqt;rw[if_pos o2] at C1 hwf⊢;have hw:IntKind.i64.wrap (pa.1-pb.1)=pa.1-pb.1:=wrp;refine aue (e5 g1 g2 vb hw hwf) ?_;refine bJ (by simp only[hwf,bU hwf,go_sem,reduceIte,jA,jB,jC,jD,reduceCtorEq,jE,jF]) h' (leo hd) ⟨?_,rfl⟩;simp only[hwf,bU hwf,go_sem,reduceIte,jA,jB,jC,jD,reduceCtorEq,jE,jF]
     have g2:(op==2)=false:=bqf;rw[if_neg o2] at C1 hwf⊢;have hw:IntKind.i64.wrap (pa.1*pb.1)=pa.1*pb.1:=Gu a1 a2 b1 b2;refine aue (e5 g1 g2 vb hw hwf) ?_;refine bJ (by simp only[hwf,bU hwf,go_sem,reduceIte,jA,jB,jC,jD,reduceCtorEq,jE,jF]) h' (leo hd) ⟨?_,rfl⟩;simp only[hwf,bU hwf,go_sem,reduceIte,jA,jB,jC,jD,reduceCtorEq,jE,jF]
    rw[decide_eq_false eb] at vb;rw[if_pos eb];refine aue (e2 hz vb) ?_;refine bJ (by simp only[go_sem,reduceIte,jA,jB,jC,jD,reduceCtorEq,jE,jF]) h' (leo hd) ⟨?_,rfl⟩;refine Zn ?_;rfl
   rw[decide_eq_false ea] at va;rw[if_pos ea];refine aue (e2 hz va) ?_;refine bJ (by simp only[go_sem,reduceIte,jA,jB,jC,jD,reduceCtorEq,jE,jF]) h' (leo hd) ⟨?_,rfl⟩;refine Zn ?_;rfl
end Go.Proofs.YtlhedpgobaellaaGreatDoor
namespace Go.Proofs.YtlhedpgobaellaaGreatDoor
open Go.RowKit Go.Sort
attribute [local irreducible] Kh
def dz(op:Int)(a b:Vl):Bool×Int:=
 if 3≤op∧(a.k≠1∨b.k≠1) then (false,7) else
 (if op=1 then decide (a=b) else if op=2 then !decide (a=b) else if op=3 then decide (a.n<b.n) else if op=4 then decide (a.n≤b.n) else if op=5 then decide (b.n<a.n) else decide (b.n≤a.n),0)
theorem wd(op:Int)(a b:Vl)(h1:1≤op)(h6:op≤6)(ha:bK a=true)(hb:bK b=true)(h:Hp):aL Tryz.prog 47 [.int .i64 op,a.v,b.v] h (.tup [.bool (dz op a b).1,dO (dz op a b).2]):=by
 refine aJ (fun L=>⟨trivial,fF L _,trivial⟩) fun h' nx hh=>aB L.aZF fun hd=>?_;simp only[Km,Kg,Ko,Kp,Kq,Ks,Ku,Kw,V.undef];have C1:=fun h=>iG a h;have C2:=fun h=>iG b h;rw[ha] at C1;rw[hb] at C2;have hv:=ab a b;have hfa:=Vl.aAD a;have hfb:=Vl.aAD b;obtain⟨A,hA,ak,an⟩:∃T,a.v= .agg T∧T.getD 0 (.tup [])= .int .i64 a.k∧T.getD 1 (.tup [])= .int .i64 a.n:=⟨_,rfl,rfl,rfl⟩;obtain⟨B,hB,bk,bn⟩:∃T,b.v= .agg T∧T.getD 0 (.tup [])= .int .i64 b.k∧T.getD 1 (.tup [])= .int .i64 b.n:=⟨_,rfl,rfl,rfl⟩;rw[hA] at C1 hv hfa⊢;rw[hB] at C2 hv hfb⊢;have z1:decide (op<1)=false:=dcf;have z6:decide ((6:Int)<op)=false:=dcf;unfold dz;by_cases h3:3≤op
 ·have z3:decide (3≤op)=true:=dct;have e1:(op==1)=false:=bqf;have e2':(op==2)=false:=bqf;have n1:¬op=1:=or;have n2:¬op=2:=or;by_cases ka:a.k=1
  ·have ga:(a.k != 1)=false:=bnf;by_cases kb:b.k=1
   ·have gb:(b.k != 1)=false:=bnf;rw[if_neg (by simp[ka,kb]),if_neg n1,if_neg n2];by_cases o3:op=3
    ·have g3:(op==3)=true:=bqt;rw[if_pos o3];refine aue (e14 z1 z6 z3 hfa hfb ak an bk bn e1 e2' ga gb g3) ?_;exact aO h' (leo hd) ⟨rfl,rfl⟩
    have g3:(op==3)=false:=bqf;rw[if_neg o3];by_cases o4:op=4
    ·have g4:(op==4)=true:=bqt;rw[if_pos o4];refine aue (e14 z1 z6 z3 hfa hfb ak an bk bn e1 e2' ga gb (e2 g3 g4)) ?_;exact aO h' (leo hd) ⟨rfl,rfl⟩
    have g4:(op==4)=false:=bqf;rw[if_neg o4];by_cases o5:op=5
    ·have g5:(op==5)=true:=bqt;rw[if_pos o5];refine aue (e14 z1 z6 z3 hfa hfb ak an bk bn e1 e2' ga gb (e3 g3 g4 g5)) ?_;exact aO h' (leo hd) ⟨rfl,rfl⟩
    have g5:(op==5)=false:=bqf;rw[if_neg o5];refine aue (e14 z1 z6 z3 hfa hfb ak an bk bn e1 e2' ga gb (e3 g3 g4 g5)) ?_;exact aO h' (leo hd) ⟨rfl,rfl⟩
   have gb:(b.k != 1)=true:=bnt;rw[if_pos ⟨h3, .inr kb⟩];refine aue (e12 z1 z6 z3 hfa hfb ak an bk bn ga gb trivial) ?_;exact aO h' (leo hd) ⟨rfl,rfl⟩
  have ga:(a.k != 1)=true:=bnt;rw[if_pos ⟨h3, .inl ka⟩];refine aue (e10 z1 z6 z3 hfa hfb ak an bk bn ga) ?_;exact aO h' (leo hd) ⟨rfl,rfl⟩
 have z3:decide (3≤op)=false:=dcf;rw[if_neg (fun e=>h3 e.1)];by_cases o1:op=1
 ·have g1:(op==1)=true:=bqt;rw[if_pos o1];refine aue (e7 z1 z6 z3 hfa hfb hv g1) ?_;exact aO h' (leo hd) ⟨rfl,rfl⟩
 have g1:(op==1)=false:=bqf;have g2:(op==2)=true:=bqt;rw[if_neg o1,if_pos or];refine aue (e8 z1 z6 z3 hfa hfb hv g1 g2) ?_;exact aO h' (leo hd) ⟨rfl,rfl⟩
theorem sI(l:Li)(hr:bS l=true)(h3:l.k=3)(h:Hp):aL Tryz.prog 45 [l.v] h (.bool true):=by
 refine aJ (fun L=>trivial) fun h' nx hh=>aB L.aZG fun hd=>?_;simp only[Km,Kg,Ko,Kp,Kq,Ks,Ku,Kw,V.undef];have C1:=fun h=>j0 l h;rw[hr] at C1;have hf:=Li.aAD l;obtain⟨T,hT,hk⟩:∃T,l.v= .agg T∧T.getD 0 (.tup [])= .int .i64 l.k:=⟨_,rfl,rfl⟩;rw[hT] at C1 hf⊢;have g:(l.k==3)=true:=bqt;refine aue (e3 hf hk g) ?_;exact aC h' (leo hd) ⟨rfl,rfl⟩
theorem mB{l:Li}(hr:bS l=true)(h3:l.k=3):1≤l.op∧l.op≤6∧cH 20 l.x=true∧cH 20 l.y=true:=by
 unfold bS at hr;rw[if_neg or] at hr;simp only[Bool.and_eq_true,decide_eq_true_eq] at hr;exact⟨or,or,hr.1.2,hr.2⟩
def gL(l:List Tr)(x:Li):Bool×Int:=if (bO l 20 x.x).2≠0 then (false,(bO l 20 x.x).2) else if (bO l 20 x.y).2≠0 then (false,(bO l 20 x.y).2) else dz x.op (bO l 20 x.x).1 (bO l 20 x.y).1
theorem z8(l:List Tr)(x:Li)(hr:bS x=true)(h3:x.k=3)(n:Nat)(es:List ME)(c:Nat)(h:Hp)(hm:h n=some (.mp es c))(he:ij es l):aL Tryz.prog 11 [x.v, .map n] h (.tup [.bool (gL l x).1,dO (gL l x).2]):=by
 refine aJ (fun L=>⟨trivial,fF L _,trivial⟩) fun h' nx hh=>aB L.g5z fun hd=>?_;simp only[Km,Kg,Ko,Kp,Kq,Ks,Ku,Kw,V.undef];obtain⟨p1,p6,px,py⟩:=mB hr h3;have hn1:=hh _ _ hm rfl;have hn2:n<nx:=hd _ _ hn1;have C1:=fun h=>sI x hr h3 h;have CX:=fun h hm=>tL l 20 x.x px n es c h hm he;have CY:=fun h hm=>tL l 20 x.y py n es c h hm he;have hvx:=eK (bO l 20 x.x).2;have hvy:=eK (bO l 20 x.y).2;have hrx:=fun e=>vY (l:=l) px e;have hry:=fun e=>vY (l:=l) py e;unfold gL;generalize bO l 20 x.x=P at*;generalize bO l 20 x.y=Q at*;have hfP:=Vl.aAD P.1;have hfQ:=Vl.aAD Q.1;have hf:=Li.aAD x;have hXf:=Ex.aAD x.x;have hYf:=Ex.aAD x.y;obtain⟨T,hT,htx,hty,hto⟩:∃T,x.v= .agg T∧(.agg ((T.drop 4).take 6))=x.x.v∧(.agg ((T.drop 10).take 6))=x.y.v∧(V.agg T).cell 3= .int .i64 x.op:=⟨_,rfl,by rw[Ex.aAn];rfl,by rw[Ex.aAn];rfl,rfl⟩;have hlx:bF (.agg 6) 4 (.agg T)=x.x.v:=htx;have hly:bF (.agg 6) 10 (.agg T)=x.y.v:=hty;rw[hT] at C1 hf⊢;generalize x.x.v=X at*;generalize x.y.v=Y at*;have hto:T.getD 3 (.tup [])= .int .i64 x.op:=hto;refine aue (e4 hf hlx hly hXf) ?_;refine aI (CX _ ?_) rfl (aH _) ?_
 ·simp only[hn1,hn2,go_sem,reduceIte,Ko,Kp,KE,Ky,reduceCtorEq,Kz,KD]
 by_cases e1:P.2=0
 ·rw[decide_eq_true e1] at hvx;rw[if_neg (by simp[e1])];refine aue (e6 hf hlx hly hYf hvx hfP) ?_;refine aI (CY _ ?_) rfl (aH _) ?_
  ·simp only[hn1,hn2,go_sem,reduceIte,Ko,Kp,KE,Ky,reduceCtorEq,Kz,KD]
  by_cases e2':Q.2=0
  ·rw[decide_eq_true e2'] at hvy;rw[if_neg (by simp[e2'])];have C2:=fun h=>wd x.op P.1 Q.1 p1 p6 (hrx e1) (hry e2') h;clear C1;generalize P.1.v=PV at*;generalize Q.1.v=QV at*;refine aue (e6 hf hto hvy hfP hfQ hvx) ?_;exact aO h' (leo hd) ⟨rfl,rfl⟩
  rw[decide_eq_false e2'] at hvy;rw[if_pos e2'];refine aue (e5 hf hlx hly hvy hfQ) ?_;exact aO h' (leo hd) ⟨rfl,rfl⟩
 rw[decide_eq_false e1] at hvx;rw[if_pos e1];refine aue (e5 hf hlx hly hvx hfP) ?_;exact aO h' (leo hd) ⟨rfl,rfl⟩
end Go.Proofs.YtlhedpgobaellaaGreatDoor
namespace Go.Proofs.YtlhedpgobaellaaGreatDoor
open Go.RowKit Go.Sort
attribute [local irreducible] Kh
def dU(l:List Tr)(e:Ex):ByteArray:=if e.op≠0∨(lkB e.t.x l).isSome=true then ⟨#[]⟩ else e.t.x
theorem mX{l:List Tr}{e:Ex}(h:(dU l e).size≠0):lkB (dU l e) l=none:=by
 unfold dU at h⊢;split at h
 ·exact absurd rfl h
 rename_i hc;rw[if_neg hc];simp only[not_or,Bool.not_eq_true,Option.isSome_eq_false_iff,Option.isNone_iff_eq_none] at hc;exact hc.2
theorem am(l:List Tr)(e:Ex)(n:Nat)(es:List ME)(c:Nat)(h:Hp)(hm:h n=some (.mp es c))(he:ij es l):aL Tryz.prog 127 [e.v, .map n] h (.str (dU l e)):=by
 refine aJ (fun L=>trivial) fun h' nx hh=>aB L.aYC fun hd=>?_;refine ZK ?_;have hn1:=hh _ _ hm rfl;have hn2:n<nx:=hd _ _ hn1;obtain⟨op,t,o,ks⟩:=e;have hev:(Ex.mk op t o ks).v= .agg [.int .i64 op, .str t.x, .int .i64 t.w.k, .int .i64 t.w.n, .str t.w.s, .sl (.agg 6) o (ks.map Ex.v)]:=by rw[Ex.aAn];rfl
 rw[hev];obtain⟨R,hR⟩:∃R,(if op≠0∨(lkB t.x l).isSome=true then ⟨#[]⟩ else t.x)=R:=⟨_,rfl⟩;have hu:dU l (Ex.mk op t o ks)=R:=hR;rw[hu];clear hu hev;have hx:=he t.x;cases k:lkB t.x l with
 |none=>
  rw[k] at hx hR;have hg0:iY true (.agg [.int .i64 0, .int .i64 0, .str ⟨#[]⟩]) es none= .tup [.agg [.int .i64 0, .int .i64 0, .str ⟨#[]⟩], .bool false]:=rfl;by_cases h0:op=0
  ·have g:(op != 0)=false:=bnf;refine aue (e5 hn1 hn2 hx hg0 g) ?_;refine aC h' (leo hd) ⟨?_,rfl⟩;rw[if_neg (by simp[h0])] at hR;rw[←hR];rfl
  have g:(op != 0)=true:=bnt;refine aue (e5 hn1 hn2 hx hg0 g) ?_;refine aC h' (leo hd) ⟨?_,rfl⟩;rw[if_pos (Or.inl h0)] at hR;rw[←hR];rfl
 |some w=>
  rw[k] at hx hR;obtain⟨j,hj1,hj2,hj3⟩:=hx;have hg0:iY true (.agg [.int .i64 0, .int .i64 0, .str ⟨#[]⟩]) es (some j)= .tup [w.v, .bool true]:=by rw[←hj2];rfl
  have hwf:=Vl.aAD w;by_cases h0:op=0
  ·have g:(op != 0)=false:=bnf;refine aue (e6 hn1 hn2 hj1 hg0 g hwf) ?_;refine aC h' (leo hd) ⟨?_,rfl⟩;rw[if_pos Zm] at hR;rw[←hR];rfl
  have g:(op != 0)=true:=bnt;refine aue (e6 hn1 hn2 hj1 hg0 g hwf) ?_;refine aC h' (leo hd) ⟨?_,rfl⟩;rw[if_pos (Or.inl h0)] at hR;rw[←hR];rfl
def wV(l:List Tr)(x:ByteArray)(e:Ex):Option (List Tr)×Int:=if (bO l 20 e).2≠0 then (none,(bO l 20 e).2) else (some (l++[⟨x,(bO l 20 e).1⟩]),0)
def fA(l:List Tr)(x:Li):Option (List Tr)×Int:=
 if x.op=1∧(dU l x.x).size≠0 then wV l (dU l x.x) x.y
 else if x.op=1∧(dU l x.y).size≠0 then wV l (dU l x.y) x.x
 else if (gL l x).2≠0∨(gL l x).1=false then (none,(gL l x).2) else (some l,0)
def Hu(r:Option (List Tr)×Int)(nx:Nat)(v:V)(h':Hp)(nx':Nat):Prop:=match r.1 with
 |none=>v= .tup [.aAH, .bool false,dO r.2]
 |some l=>∃n es c,v= .tup [.map n, .bool true, .nilIface]∧nx≤n∧n<nx'∧h' n=some (.mp es c)∧tO es c l
theorem gz(l:List Tr)(x:ByteArray)(hx:lkB x l=none)(e:Ex)(hr:cH 20 e=true)(n:Nat)(es:List ME)(c:Nat)(h:Hp)(nx:Nat)(hm:h n=some (.mp es c))(he:tO es c l):
 aR Tryz.prog 128 [.map n, .str x,e.v] h nx fun v h' nx'=>Hu (wV l x e) nx v h' nx'∧∀k,k<nx→h' k=h k:=by
 refine aB L.aYB fun hd=>?_;refine ZK ?_;have hn2:n<nx:=hd _ _ hm;have CX:=fun h hm=>tL l 20 e hr n es c h hm he.at
 have hv:=eK (bO l 20 e).2;unfold wV;generalize bO l 20 e=P at*;have hfP:=Vl.aAD P.1;have hf:=Ex.aAD e;generalize e.v=X at*;refine aue hf ?_;refine aI (CX _ ?_) rfl (aH _) ?_
 ·simp only[hm,hn2,go_sem,reduceIte,jA,jB,jC,jD,reduceCtorEq,jE,jF]
 by_cases e1:P.2=0
 ·rw[decide_eq_true e1] at hv;rw[if_neg (by simp[e1])];refine aue (e2 hv hfP) ?_;refine aU ((nJ n es c l he _ _ ?_).dom.mono ?_)
  ·simp only[hm,hn2,go_sem,reduceIte,jA,jB,jC,jD,reduceCtorEq,jE,jF]
  rintro v h2 nx2 hle ⟨⟨n2,es2,c2,rfl,p1,p2,p3,p4,p5⟩,hd2,_⟩;unfold bQ;dsimp only at p1 p5;refine Zn ?_;have hx2:=p4.at x;rw[hx] at hx2;have hb9:h2 (nx+1)=some (.arr (.agg 3) [P.1.v]):=by rw[p5 (nx+1) or];simp only[go_sem,reduceIte,jA,jB,jC,jD,reduceCtorEq,jE,jF]
  have n9:nx+1<nx2:=or;have hk2:∀k,k<nx→h2 k=h k:=fun k hk=>by
   rw[p5 k or];simp only[Kb];repeat rw[if_neg or]
  refine aue (e3 hb9 hfP n9) ?_;refine kB (es:=es2) (c:=c2) (n:=n2) rfl rfl (by simp only[p3,go_sem,reduceIte,jA,jB,jC,jD,reduceCtorEq,jE,jF]) hx2 ?_;refine Zn ?_;refine au ?_;refine bX _ (Ka _) ⟨⟨n2,_,_,rfl,or,Zw,by simp only[Kb,if_true],p4.add ⟨x,P.1⟩ hx⟩,fun k hk=>?_⟩;simp only[Kb];rw[if_neg or];exact hk2 k hk
 rw[decide_eq_false e1] at hv;rw[if_pos e1];refine aue (e2 hv hfP) ?_;refine⟨_,Ka _,rfl,fun k hk=>?_⟩;simp only[Kb];repeat rw[if_neg or]
theorem pq(l:List Tr)(x:Li)(hr:bS x=true)(h3:x.k=3)(n:Nat)(es:List ME)(c:Nat)(h:Hp)(nx:Nat)(hm:h n=some (.mp es c))(he:tO es c l):
 aR Tryz.prog 81 [x.v, .map n] h nx fun v h' nx'=>Hu (fA l x) nx v h' nx'∧∀k,k<nx→h' k=h k:=by
 refine aB L.aYt fun hd=>?_;refine ZK ?_;have hn2:n<nx:=hd _ _ hm;obtain⟨p1,p6,px,py⟩:=mB hr h3;have C1:=fun h=>sI x hr h3 h;have UX:=fun h hm=>am l x.x n es c h hm he.at
 have UY:=fun h hm=>am l x.y n es c h hm he.at
 have TT:=fun h hm=>z8 l x hr h3 n es c h hm he.at
 have hf:=Li.aAD x;have hXf:=Ex.aAD x.x;have hYf:=Ex.aAD x.y;have SX:=fun hz h nx hm=>gz l (dU l x.x) (mX hz) x.y py n es c h nx hm he;have SY:=fun hz h nx hm=>gz l (dU l x.y) (mX hz) x.x px n es c h nx hm he;obtain⟨T,hT,htx,hty,hto⟩:∃T,x.v= .agg T∧(.agg ((T.drop 4).take 6))=x.x.v∧(.agg ((T.drop 10).take 6))=x.y.v∧(V.agg T).cell 3= .int .i64 x.op:=⟨_,rfl,by rw[Ex.aAn];rfl,by rw[Ex.aAn];rfl,rfl⟩;have hlx:bF (.agg 6) 4 (.agg T)=x.x.v:=htx;have hly:bF (.agg 6) 10 (.agg T)=x.y.v:=hty;have hto:T.getD 3 (.tup [])= .int .i64 x.op:=hto;rw[hT] at C1 TT hf⊢;unfold fA;generalize dU l x.x=A at*;generalize dU l x.y=B at*;generalize gL l x=R at*;generalize x.x.v=X at*;generalize x.y.v=Y at*;obtain⟨H,hH⟩:∃H,h.set nx (.arr (.agg 17) [.agg T])=H:=⟨_,rfl⟩;have hHn:H n=some (.mp es c):=by rw[←hH];simp only[Kb];rw[if_neg or];exact hm
 have D1:=UX H hHn;have D2:=UY H hHn;have TT:=TT H hHn;rw[←hH] at D1 D2 TT;generalize hDC:aS.draw _ _ _=DC;refine aue hf ?_;rw[←hDC];refine kU rfl ?_;have zA:=wR A;have zB:=wR B;refine aue (e3 hf hlx hXf) ?_;refine bD D1 rfl (aH _) ?_;refine aue (e3 hf hly hYf) ?_;refine bD D2 rfl (aH _) ?_;have hvR:=eK R.2;by_cases o1:x.op=1
 ·have g1:(x.op==1)=true:=bqt;by_cases hA:A.size=0
  ·rw[decide_eq_true hA] at zA;rw[if_neg (fun e=>e.2 hA)];by_cases hB:B.size=0
   ·rw[decide_eq_true hB] at zB;rw[if_neg (fun e=>e.2 hB)];refine aue (e5 hf hto g1 zA zB) ?_;refine aI TT rfl (aH _) ?_;by_cases hR2:R.2=0
    ·rw[decide_eq_true hR2] at hvR;cases hR1:R.1 with
     |true=>
      rw[if_neg (by simp[hR2])];refine aue (e2 hvR hR1) ?_;refine aU ((nJ n es c l he _ _ ?_).dom.mono ?_)
      ·simp only[hm,hn2,go_sem,reduceIte,jA,jB,jC,jD,reduceCtorEq,jE,jF]
      rintro v h2 nx2 hle ⟨⟨n2,es2,c2,rfl,q1,q2,q3,q4,q5⟩,hd2,_⟩;unfold bQ;dsimp only at q1 q5;refine Zn ?_;refine au ?_;refine bX _ (Ka _) ⟨⟨n2,es2,c2,rfl,or,Zw,q3,q4⟩,fun k hk=>?_⟩;refine(q5 k or).trans ?_;simp only[Kb];rw[if_neg or]
     |false=>
      rw[if_pos (.inr rfl)];refine aue (e2 hvR hR1) ?_;refine bX _ (Ka _) ⟨rfl,fun k hk=>?_⟩;simp only[Kb];rw[if_neg or]
    rw[decide_eq_false hR2] at hvR;rw[if_pos (.inl hR2)];refine aue hvR ?_;refine bX _ (Ka _) ⟨rfl,fun k hk=>?_⟩;simp only[Kb];rw[if_neg or]
   rw[decide_eq_false hB] at zB;rw[if_pos ⟨o1,hB⟩];refine aue (e7 hf hto g1 zA zB hlx hXf) ?_;refine aU ((SY hB _ _ ?_).dom.mono ?_)
   ·simp only[hm,hn2,go_sem,reduceIte,jA,jB,jC,jD,reduceCtorEq,jE,jF]
   rintro v h2 nx2 hle ⟨⟨q,hk⟩,hd2,_⟩;unfold bQ;dsimp only at q hk;have hk2:∀k,k<nx→h2 k=h k:=fun k hkn=>by
    rw[hk k or];simp only[Kb];rw[if_neg or]
   obtain⟨⟨r,e⟩,hr⟩:∃r,wV l B x.x=r:=⟨_,rfl⟩;rw[hr] at q⊢;cases r with
   |none=>
    have q:v= .tup [.aAH, .bool false,dO e]:=q;subst q;refine Zn ?_;refine au ?_;exact bX _ (Ka _) ⟨rfl,hk2⟩
   |some l2=>
    obtain⟨n2,es2,c2,q1,q2,q3,q4,q5⟩:=q;subst q1;refine Zn ?_;refine au ?_;exact bX _ (Ka _) ⟨⟨n2,es2,c2,rfl,or,Zw,q4,q5⟩,hk2⟩
  rw[decide_eq_false hA] at zA;rw[if_pos ⟨o1,hA⟩];refine aue (e6 hf hto g1 zA hly hYf) ?_;refine aU ((SX hA _ _ ?_).dom.mono ?_)
  ·simp only[hm,hn2,go_sem,reduceIte,jA,jB,jC,jD,reduceCtorEq,jE,jF]
  rintro v h2 nx2 hle ⟨⟨q,hk⟩,hd2,_⟩;unfold bQ;dsimp only at q hk;have hk2:∀k,k<nx→h2 k=h k:=fun k hkn=>by
   rw[hk k or];simp only[Kb];rw[if_neg or]
  obtain⟨⟨r,e⟩,hr⟩:∃r,wV l A x.y=r:=⟨_,rfl⟩;rw[hr] at q⊢;cases r with
  |none=>
   have q:v= .tup [.aAH, .bool false,dO e]:=q;subst q;refine Zn ?_;refine au ?_;exact bX _ (Ka _) ⟨rfl,hk2⟩
  |some l2=>
   obtain⟨n2,es2,c2,q1,q2,q3,q4,q5⟩:=q;subst q1;refine Zn ?_;refine au ?_;exact bX _ (Ka _) ⟨⟨n2,es2,c2,rfl,or,Zw,q4,q5⟩,hk2⟩
 have g1:(x.op==1)=false:=bqf;rw[if_neg (fun e=>o1 e.1),if_neg (fun e=>o1 e.1)];refine aue (e3 hf hto g1) ?_;refine aI TT rfl (aH _) ?_;by_cases hR2:R.2=0
 ·rw[decide_eq_true hR2] at hvR;cases hR1:R.1 with
  |true=>
   rw[if_neg (by simp[hR2])];refine aue (e2 hvR hR1) ?_;refine aU ((nJ n es c l he _ _ ?_).dom.mono ?_)
   ·simp only[hm,hn2,go_sem,reduceIte,jA,jB,jC,jD,reduceCtorEq,jE,jF]
   rintro v h2 nx2 hle ⟨⟨n2,es2,c2,rfl,q1,q2,q3,q4,q5⟩,hd2,_⟩;unfold bQ;dsimp only at q1 q5;refine Zn ?_;refine au ?_;refine bX _ (Ka _) ⟨⟨n2,es2,c2,rfl,or,Zw,q3,q4⟩,fun k hk=>?_⟩;refine(q5 k or).trans ?_;simp only[Kb];rw[if_neg or]
  |false=>
   rw[if_pos (.inr rfl)];refine aue (e2 hvR hR1) ?_;refine bX _ (Ka _) ⟨rfl,fun k hk=>?_⟩;simp only[Kb];rw[if_neg or]
 rw[decide_eq_false hR2] at hvR;rw[if_pos (.inl hR2)];refine aue hvR ?_;refine bX _ (Ka _) ⟨rfl,fun k hk=>?_⟩;simp only[Kb];rw[if_neg or]
end Go.Proofs.YtlhedpgobaellaaGreatDoor
