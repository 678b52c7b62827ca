/-
Texts of this proof,one behind the other. No conditions.
-/
import Derived.Test.YtlhedpgobaellaaGreatDoorKha
import Derived.Test.YtlhedpgobaellaaGreatDoorKfb
open Go.Proofs.YtlhedpgobaellaaGreatDoor.Hp renaming le_refl→Ka,set→Kb
open List renaming take_of_length_le→Kc,map_append→Kd,mem_map→Ke,map_cons→Kf,map_nil→Kg,mem_singleton→Kh,mem_cons→Ki,length_nil→Kj,length_append→Km,take_succ_eq_append_getElem→Ko,length_cons→Kp,replicate_succ→Kt,replicate_zero→Ku,nodup_append→Kw,cons_append→Kx,nil_append→Ky,mem_append→KE,nodup_cons→KF,drop_zero→KH,drop→KK
open Go.IntKind renaming wrap→Kk
open Nat renaming reduceAdd→Kq,reduceSub→Ks,zero_le→Kz,lt_or_ge→KA,le_refl→KB,reduceLeDiff→KC,reduceEqDiff→KD,reduceLT→KI
open Prod renaming fst→Kv
open Int renaming reduceToNat→KG
open Option renaming map→KJ
open Nat renaming reduceAdd→jA,reduceSub→jB,reduceLT→jC,reduceLeDiff→jD,reduceEqDiff→jE
open Int renaming reduceToNat→jF,toNat_natCast→jG,natCast_add→jH,natCast_one→jI,natCast_zero→jJ
open List renaming length_map→jK,length_cons→jL,length_nil→jM,cons_append→jP
set_option linter.all false
set_option maxHeartbeats 8000000
namespace Go.Proofs.YtlhedpgobaellaaGreatDoor
open Go.RowKit Go.Sort
attribute [local irreducible] Kk
def yg:Vl:=⟨0,0,⟨#[]⟩⟩
def cH(t:Tr)(l:List Tr):Vl×Int:=
 if t.x.size=0 then (if bU t.w=true then (t.w,0) else (yg,2))
 else match lkB t.x l with
  |some w=>if bU w=true then (w,0) else (yg,13)
  |none=>(yg,13)
theorem vK(t:Tr)(l:List Tr)(n:Nat)(es:List ME)(c:Nat)(h:Hp)(hm:h n=some (.mp es c))(he:af es l):aM Tryz.prog 48 [t.v, .map n] h (.tup [(cH t l).1.v,dC (cH t l).2]):=by
 refine aJ (fun L=>⟨Vl.aAN L _,dS L _,trivial⟩) fun h' nx hh=>aB L.bBP fun hd=>?_;refine ZK ?_;have hn1:=hh _ _ hm rfl;have hn2:n<nx:=hd _ _ hn1;have h0:=vT t.x;unfold cH;by_cases h1:t.x.size=0
 ·have g1:decide (t.x.size=0)=true:=dct;rw[if_pos h1];have C1:∀h,aM Tryz.prog 94 [.agg [.int .i64 t.w.k, .int .i64 t.w.n, .str t.w.s]] h (.bool (bU t.w)):=fun h=>iP t.w h;cases k:bU t.w with
  |true=>
   rw[k] at C1;refine aue (e3 Tr.v.eq_1 h0 g1) ?_;refine bC (by simp only[go_sem,reduceIte,jA,jB,jC,jD,reduceCtorEq,jE,jF]) h' (leo hd) ⟨?_,rfl⟩;refine Zn ?_;rfl
  |false=>
   rw[k] at C1;refine aue (e3 Tr.v.eq_1 h0 g1) ?_;refine bC (by simp only[go_sem,reduceIte,jA,jB,jC,jD,reduceCtorEq,jE,jF]) h' (leo hd) ⟨?_,rfl⟩;refine Zn ?_;rfl
 have g1:decide (t.x.size=0)=false:=dcf;rw[if_neg h1];have hx:=he t.x;cases k:lkB t.x l with
 |none=>
  rw[k] at hx;have hg0:jW true (.agg [.int .i64 0, .int .i64 0, .str ⟨#[]⟩]) es none= .tup [.agg [.int .i64 0, .int .i64 0, .str ⟨#[]⟩], .bool false]:=rfl;refine aue (e7 Tr.v.eq_1 h0 g1 hn1 hn2 hx hg0) ?_;refine bC (by simp only[go_sem,reduceIte,jA,jB,jC,jD,reduceCtorEq,jE,jF]) h' (leo hd) ⟨?_,rfl⟩;refine Zn ?_;rfl
 |some w=>
  rw[k] at hx;obtain⟨j,hj1,hj2,hj3⟩:=hx;have hg0:jW true (.agg [.int .i64 0, .int .i64 0, .str ⟨#[]⟩]) es (some j)= .tup [w.v, .bool true]:=by rw[←hj2];rfl
  have C1:=fun h=>iP w h;have hwf:=Vl.aAC w;simp only;cases k2:bU w with
  |true=>
   rw[k2] at C1;refine aue (e8 Tr.v.eq_1 h0 g1 hn1 hn2 hj1 hg0 hwf) ?_;refine bC (by simp only[hwf,bI hwf,go_sem,reduceIte,jA,jB,jC,jD,reduceCtorEq,jE,jF]) h' (leo hd) ⟨?_,rfl⟩;simp only[hwf,bI hwf,go_sem,reduceIte,jA,jB,jC,jD,reduceCtorEq,jE,jF];rfl
  |false=>
   rw[k2] at C1;refine aue (e8 Tr.v.eq_1 h0 g1 hn1 hn2 hj1 hg0 hwf) ?_;refine bC (by simp only[go_sem,reduceIte,jA,jB,jC,jD,reduceCtorEq,jE,jF]) h' (leo hd) ⟨?_,rfl⟩;refine Zn ?_;rfl
def iS(l:List Tr):List Vl→List Tr→List Vl×Int
 |acc,[]=>(acc,0)
 |acc,t::r=>if (cH t l).2≠0 then ([],(cH t l).2) else iS l (acc++[(cH t l).1]) r
def bY(a:Am)(l:List Tr):List Vl×Int:=if 6<a.l.length then ([],6) else iS l [] a.l
def okO(e:Int)(o:Own):Own:=if e=0 then o else .nil
theorem gN(l:List Tr)(acc:List Vl)(t:Tr)(r:List Tr):iS l acc (t::r)=if (cH t l).2≠0 then ([],(cH t l).2) else iS l (acc++[(cH t l).1]) r:=rfl
theorem aa(e:Int)(vs:List Vl)(L:Nat→Prop):(V.tup [.sl (.agg 3) (okO e .free) (vs.map Vl.v),dC e]).names L:=by
 refine⟨⟨?_,bF (fun x=>Vl.aAN L x) _⟩,dS L _,trivial⟩;intro n k;unfold okO at k;split at k<;>cases k
theorem qM(a:Am)(l:List Tr)(n:Nat)(es:List ME)(c:Nat)(h:Hp)(hm:h n=some (.mp es c))(he:af es l):aM Tryz.prog 12 [a.v, .map n] h (.tup [.sl (.agg 3) (okO (bY a l).2 .free) ((bY a l).1.map Vl.v),dC (bY a l).2]):=by
 refine gJ (fun L=>aa _ _ L) fun h' nx hh=>aB L.g5z fun hd=>?_;obtain⟨r,o,ts⟩:=a;refine ZK ?_;have hn1:=hh _ _ hm rfl;have hn2:n<nx:=hd _ _ hn1;unfold bY;dsimp only;by_cases h6:6<ts.length
 ·have g1:decide ((6:Int)<(ts.length:Int))=true:=dct;rw[if_pos h6];refine aue (e4 Am.v.eq_1 trs.eq_1 g1 (@jK Tr V)) ?_;refine aN _ (Ka _) ⟨?_,leo hd⟩;refine Zn ?_;rfl
 have g1:decide ((6:Int)<(ts.length:Int))=false:=dcf;rw[if_neg h6];refine aue (e4 Am.v.eq_1 trs.eq_1 g1 (@jK Tr V)) ?_;generalize hRC:mD (lwp Tryz.prog ((aT.ops L.aEl).seq aT.ret)) _=RC
 refine aP (fun q:Nat×Nat×List Vl=>aD 42 0 [(1, .map n),(4, .sl (.agg 3) .nil []),(5, .nilIface),(6, .rs q.2.1 (.agg 3) 0 q.2.2.length),(21, .sl (.agg 4) o (ts.map Tr.v)),(22, .int .i64 ts.length),(23, .int .i64 q.1)])
  (fun q hp nx1=>q.1≤ts.length∧nx+1≤nx1∧aS hp nx1∧Hp.same nx h' hp∧(nx<q.2.1∧hp q.2.1=some (.arr (.agg 3) (q.2.2.map Vl.v)))∧iS l [] ts=iS l q.2.2 (ts.drop q.1)∧q.2.2.length≤q.1)
  (fun q=>ts.length-q.1) (0,nx+1,[]) ⟨Kz _,Zw,by exact dmo hd,by exact kep Hp.same.aAr,⟨Zw,by simp only[Kg,go_sem,reduceIte,jA,jB,jC,jD,reduceCtorEq,jE,jF]⟩,rfl,Kz _⟩ (by simp only[WkL,aD,jH,jI,jJ,jM,go_sem,reduceIte,jA,jB,jC,jD,reduceCtorEq,jE,jF]) ?_
 rintro⟨i,id,acc⟩ hp nx1 ⟨hi,hnx,hdm,hsm,⟨aG7,hid⟩,hmk,hlen⟩;generalize hQ:aZ _ _ _ _ _=Q0;dsimp only at hi hid hmk hlen aG7;refine Zk ?_;have hle:=hsm.le hd (Ka _);have hme:hp n=some (.mp es c):=by rw[hsm n hn2];exact hn1
 have aC8:id<nx1:=hdm _ _ hid;rcases KA i ts.length with hlt|hge
 ·have hc:decide ((i:Int)<(ts.length:Int))=true:=dct;have hg:=aL Tr.v ts i hlt;have hw:IntKind.i64.wrap ((i:Int)+1)=((i+1:Nat):Int):=wrp;have hdr:ts.drop i=ts[i]::ts.drop (i+1):=List.drop_eq_getElem_cons hlt;have hn3:n<nx1:=or;rw[hdr] at hmk;generalize ts[i]=T at hg hmk;have hTf:=Tr.aAC T;have hVf:=Vl.aAC (cH T l).1;refine aue (e9 hc hg hlt hme hn3 (@jK Tr V) jG hw hTf) ?_;refine aH (vK T l n es c _ (by simp only[hme,hn3,go_sem,reduceIte,jA,jB,jC,jD,reduceCtorEq,jE,jF]) he) rfl (aI _) ?_;refine Zn ?_;rw[gN] at hmk;by_cases hz:(cH T l).2=0
  ·rw[if_neg (by simp[hz])] at hmk;rw[hz];have hml:(acc.map Vl.v).length=acc.length:=jK ..;have htk:(acc.map Vl.v).take acc.length=acc.map Vl.v:=Kc Zm;have aHC:acc.length≤1000000:=or;refine aue (e9 Ao hVf hw hid aC8 hml htk aHC hc) ?_;rw[←hQ];exact aF (i+1,nx1+5,acc++[(cH T l).1]) Zw ⟨hlt,or,dmo hdm,kep hsm,⟨Zw,by simp only[Kd,Kf,Kg,go_sem,reduceIte,jA,jB,jC,jD,reduceCtorEq,jE,jF]⟩,hmk,by dsimp only;rw[Km];simp only[jL,jM];omega⟩ (by simp only[WkL,aD,jH,jI,jJ,Km,jL,jM,go_sem,reduceIte,jA,jB,jC,jD,reduceCtorEq,jE,jF])
  rw[if_pos hz] at hmk;have hev:dC (cH T l).2= .iface 93 (.int .i64 (cH T l).2):=by unfold dC;rw[if_neg hz]
  refine aue (e2 hev hVf) ?_;rw[←hQ,←hRC];refine au ?_;refine aN _ (Ka _) ⟨?_,lef hd hle⟩;refine Zn ?_;rw[hmk];unfold okO;rw[if_neg hz,hev];rfl
 have hc:decide ((i:Int)<(ts.length:Int))=false:=dcf;refine aue hc ?_;rw[←hQ];refine au ?_;have hie:i=ts.length:=or;rw[hie,List.drop_length] at hmk;simp only[iS] at hmk;rw[←hRC];refine dA (lB (t:=6) (n:=id) (k:= .agg 3) (off:=0) (len:=acc.length) (es:=acc.map Vl.v) rfl hid Zm) ?_;have htk:(KK 0 (acc.map Vl.v)).take acc.length=acc.map Vl.v:=by rw[KH];exact Kc Zm
 rw[htk];refine au ?_;refine aN _ (Ka _) ⟨?_,?_⟩
 ·refine Zn ?_;rw[hmk];rfl
 refine fun m b e=>?_;have:=hd _ _ e;simp only[Hp.del];rw[if_neg or];exact hle m b e
end Go.Proofs.YtlhedpgobaellaaGreatDoor
namespace Go.Proofs.YtlhedpgobaellaaGreatDoor
open Go.RowKit Go.Sort
attribute [local irreducible] Kk
def lY(a:Am):List (List Vl)→List (List Tr)→List (List Vl)×Int
 |acc,[]=>(acc,0)
 |acc,l::r=>if (bY a l).2≠0 then ([],(bY a l).2) else lY a (acc++[(bY a l).1]) r
theorem uU(a:Am)(acc:List (List Vl))(l:List Tr)(r:List (List Tr)):lY a acc (l::r)=if (bY a l).2≠0 then ([],(bY a l).2) else lY a (acc++[(bY a l).1]) r:=rfl
theorem my(l:List Tr):∀(ts:List Tr) (acc:List Vl),(iS l acc ts).1.length≤acc.length+ts.length
 | [],acc=>by simp[iS]
 |t::r,acc=>by
  rw[gN];split
  ·simp
  have:=my l r (acc++[(cH t l).1]);simp only[Km,Kp,Kj] at this⊢;omega
theorem yO(a:Am)(l:List Tr):(bY a l).1.length≤6:=by
 unfold bY;split
 ·simp
 have:=my l a.l [];simp only[Kj] at this;omega
end Go.Proofs.YtlhedpgobaellaaGreatDoor
namespace Go.Proofs.YtlhedpgobaellaaGreatDoor
open Go.RowKit Go.Sort
attribute [local irreducible] Kk
structure EE where
 x:ByteArray
 w:Vl
 b:Nat
def EE.me(e:EE):ME:=⟨.str e.x,e.w.v,e.b⟩
def EE.p(e:EE):ByteArray×Vl:=(e.x,e.w)
def AO(es:List ME)(c:Nat)(L:List EE):Prop:=es=L.map EE.me∧(L.map EE.b).Nodup∧∀e∈L,e.b<c
def lkP(x:ByteArray):List (ByteArray×Vl)→Option Vl
 | []=>none
 |a::r=>if a.1=x then some a.2 else lkP x r
theorem Bl(x:ByteArray)(a:ByteArray×Vl):∀l,lkP x (l++[a])=(match lkP x l with
 |some w=>some w
 |none=>if a.1=x then some a.2 else none)
 | []=>by simp[lkP]
 |b::l=>by
  simp only[jP,lkP];split
  ·rfl
  exact Bl x a l
theorem EW{x:ByteArray}:∀{l:List (ByteArray×Vl)},(∀e∈l,e.1≠x)→lkP x l=none
 | [],_=>rfl
 |b::l,h=>by
  unfold lkP;rw[if_neg (h b List.mem_cons_self)];exact EW fun e he=>h e (List.mem_cons_of_mem _ he)
theorem u6{x:ByteArray}:∀{l:List (ByteArray×Vl)},lkP x l=none→∀e∈l,e.1≠x
 |b::l,h,e,he=>by
  unfold lkP at h;split at h
  ·cases h
  rename_i hb;rcases Ki.1 he with rfl|he
  ·exact hb
  exact u6 h e he
def sI(es:List ME)(c:Nat)(l:List Tr):Prop:=∃L:List EE,AO es c L∧(L.map EE.x).Nodup∧∀x,lkP x (L.map EE.p)=lkB x l
theorem FC(x:ByteArray):∀L:List EE,(match lkP x (L.map EE.p) with
 |none=>bT (.plain .leaf [.str]) (.str x) (L.map EE.me)=some none
 |some w=>∃j,bT (.plain .leaf [.str]) (.str x) (L.map EE.me)=some (some j)∧((L.map EE.me).getD j default).v=w.v∧j<(L.map EE.me).length)
 | []=>rfl
 |e::L=>by
  have ih:=FC x L;simp only[Kf,lkP,bT,EE.me,EE.p];rw[ph];by_cases h:e.x=x
  ·rw[if_pos h,decide_eq_true h.symm];exact⟨0,rfl,rfl,Zm⟩
  rw[if_neg h,decide_eq_false (fun q=>h q.symm)];cases hk:lkP x (L.map EE.p) with
  |none=>
   rw[hk] at ih;show KJ _ (bT _ _ (L.map EE.me))=_;rw[ih];rfl
  |some w=>
   rw[hk] at ih;obtain⟨j,h1,h2,h3⟩:=ih;refine⟨j+1,?_,h2,by simpa using h3⟩;show KJ _ (bT _ _ (L.map EE.me))=_;rw[h1];rfl
theorem sI.at{es:List ME}{c:Nat}{l:List Tr}(h:sI es c l):af es l:=fun x=>by
 obtain⟨L,⟨rfl,_,_⟩,_,hl⟩:=h;rw[←hl x];exact FC x L
theorem wu:sI [] 0 []:=⟨[],⟨rfl,Zm,Zm⟩,Zm,fun x=>rfl⟩
theorem AO.add{es:List ME}{c:Nat}{L:List EE}(h:AO es c L)(x:ByteArray)(w:Vl):AO (es++[⟨.str x,w.v,c⟩]) (c+1) (L++[⟨x,w,c⟩]):=by
 obtain⟨rfl,h2,h3⟩:=h;refine⟨by rw[Kd];rfl,?_,fun e he=>?_⟩
 ·rw[Kd,Kw];refine⟨h2,Zm,fun a ha b hb=>?_⟩;obtain⟨e,he,rfl⟩:=Ke.1 ha;simp only[Kf,Kg,Kh] at hb;subst hb;have:=h3 e he;omega
 rcases KE.1 he with he|he
 ·have:=h3 e he;omega
 rw[Kh] at he;subst he;exact Nat.lt_succ_self c
theorem sI.add{es:List ME}{c:Nat}{l:List Tr}(h:sI es c l)(t:Tr)(hn:lkB t.x l=none):sI (es++[⟨.str t.x,t.w.v,c⟩]) (c+1) (l++[t]):=by
 obtain⟨L,hL,hx,hl⟩:=h;have hno:∀e∈L,e.x≠t.x:=fun e he=>u6 ((hl t.x).trans hn) e.p (Ke.2 ⟨e,he,rfl⟩);refine⟨L++[⟨t.x,t.w,c⟩],hL.add t.x t.w,?_,fun x=>?_⟩
 ·rw[Kd,Kw];refine⟨hx,Zm,fun a ha b hb=>?_⟩;obtain⟨e,he,rfl⟩:=Ke.1 ha;simp only[Kf,Kg,Kh] at hb;subst hb;exact hno e he
 rw[Kd,Kf,Kg,Bl,qE,←hl x];rfl
theorem EV{A B:List (ByteArray×Vl)}(h:A.Perm B)(hn:(A.map Kv).Nodup)(x:ByteArray):lkP x A=lkP x B:=by
 have key:∀{C:List (ByteArray×Vl)},(C.map Kv).Nodup→∀w,lkP x C=some w↔(x,w)∈C:=by
  intro C hC w;induction C with
  |nil=>simp[lkP]
  |cons a C ih=>
   rw[Kf,KF] at hC;unfold lkP;split
   ·rename_i e;simp only[Option.some.injEq,Ki];constructor
    ·rintro rfl;exact .inl (by rw[←e])
    rintro(h|h)
    ·rw[←h]
    exact absurd (Ke.2 ⟨_,h,rfl⟩) (by rw[e] at hC;exact hC.1)
   rename_i e;rw[ih hC.2,Ki];exact⟨.inr,fun h=>h.elim (fun h=>absurd (by rw[←h]) e) id⟩
 have hn2:(B.map Kv).Nodup:=(h.map Kv).nodup_iff.1 hn;cases hA:lkP x A with
 |some w=>exact((key hn2 w).2 (h.mem_iff.1 ((key hn w).1 hA))).symm
 |none=>
  cases hB:lkP x B with
  |none=>rfl
  |some w=>rw[(key hn w).2 (h.mem_iff.2 ((key hn2 w).1 hB))] at hA;cases hA
theorem Fl:∀{l:List EE},(l.map EE.x).Nodup→∀{a b:EE},a∈l→b∈l→a.x=b.x→a=b
 |c::l,hn,a,b,ha,hb,h=>by
  rw[Kf,KF] at hn;rcases Ki.1 ha with rfl|h1
  ·rcases Ki.1 hb with rfl|h2
   ·rfl
   exact absurd (Ke.2 ⟨b,h2,h.symm⟩) hn.1
  rcases Ki.1 hb with rfl|h2
  ·exact absurd (Ke.2 ⟨a,h1,h⟩) hn.1
  exact Fl hn.2 h1 h2 h
theorem uv(m n:Nat)(es0:List ME)(c0:Nat)(L0:List EE)(h0:AO es0 c0 L0)(hx0:(L0.map EE.x).Nodup)(h:Hp)(nx:Nat)(hmn:m≠n)(hm:h m=some (.mp es0 c0))(hn:h n=some (.mp [] 0)):
 aR Tryz.prog 193 [.map n, .map m] h nx fun v h' nx'=>∃es c L,h' n=some (.mp es c)∧AO es c L∧(L.map EE.p).Perm (L0.map EE.p)∧∀k,k<nx→k≠n→h' k=h k:=by
 refine aB L.aXP fun hd=>?_;refine ZK ?_;have hmx:=hd _ _ hm;have hnx:=hd _ _ hn;obtain⟨rfl,hb0,hc0⟩:=h0;refine au ?_;refine EM rfl hm ?_;refine au ?_
 refine aP (fun q:List EE×List EE×List ME×Nat=>aD 16 0 [(0, .map n),(7, .ptr nx .leaf 0 0)])
  (fun q hp nx1=>nx<nx1∧hp m=some (.mp (L0.map EE.me) c0)∧hp nx=some (.mit m c0 (q.1.map EE.b) c0)∧hp n=some (.mp q.2.2.1 q.2.2.2)∧AO q.2.2.1 q.2.2.2 q.2.1∧q.2.1.map EE.p=q.1.map EE.p∧(q.1.map EE.b).Nodup∧(∀y∈q.1,y∈L0)∧∀k,k<nx→k≠n→hp k=h k)
  (fun q=>L0.length-q.1.length) ([],[],[],0) ⟨Zw,by simp only[hm,(fls:(m=nx)=False),go_sem,reduceIte,jA,jB,jC,jD,reduceCtorEq,jE,jF],by simp only[go_sem,reduceIte,jA,jB,jC,jD,reduceCtorEq,jE,jF],by simp only[hn,(fls:(n=nx)=False),go_sem,reduceIte,jA,jB,jC,jD,reduceCtorEq,jE,jF],⟨rfl,Zm,Zm⟩,rfl,Zm,Zm,fun k hk _=>by simp only[Kb];rw[if_neg or]⟩ (by simp only[WkL,aD,jH,jI,jJ,go_sem,reduceIte,jA,jB,jC,jD,reduceCtorEq,jE,jF]) ?_
 rintro⟨js,L,es,c⟩ hp nx1 ⟨q1,q2,q3,q4,q5,q6,q7,q8,q9⟩;generalize hQ:aZ _ _ _ _ _=Q0;dsimp only at q3 q4 q5 q6 q7 q8;refine Zk ?_;refine au ?_;refine EN rfl q3 q2 (fun e he=>by obtain⟨y,hy,rfl⟩:=Ke.1 he;exact hc0 y hy) (KB _) ?_ ?_
 ·intro e he hns;obtain⟨y,hy,rfl⟩:=Ke.1 he;have hns:y.b∉js.map EE.b:=hns;have hno:∀z∈js,z.x≠y.x:=fun z hz e=>hns (by rw[←Fl hx0 (q8 z hz) hy e];exact Ke.2 ⟨z,hz,rfl⟩);have hf:bT (.plain .leaf [.str]) (.str y.x) es=some none:=by
   have:=FC y.x L;rw[←q5.1,q6,EW (fun e he=>by obtain⟨z,hz,rfl⟩:=Ke.1 he;exact hno z hz)] at this;exact this
  have hwf:=Vl.aAC y.w;simp only[EE.me];refine au ?_;refine EO (b:=y.b) (e:=y.me) (m:=m) (since:=c0) (c:=c0) (es:=L0.map EE.me) (seen:=js.map EE.b++[y.b]) rfl (by simp only[go_sem,reduceIte,jA,jB,jC,jD,reduceCtorEq,jE,jF]) (by simp only[q2,(fls:(m=nx)=False),go_sem,reduceIte,jA,jB,jC,jD,reduceCtorEq,jE,jF]) Zm (GB EE.me (by exact hb0) hy) ?_;simp only[EE.me];refine aue hwf ?_;refine mK (es:=es) (c:=c) (n:=n) rfl rfl (by simp only[q4,(fls:(n=nx)=False),(fls:(n=nx1+1)=False),(fls:(n=nx1+2)=False),(fls:(n=nx1)=False),go_sem,reduceIte,jA,jB,jC,jD,reduceCtorEq,jE,jF]) hf ?_;refine Zn ?_;refine au ?_;rw[←hQ];have aXj:=Cm EE.b q7 q8 hy hns;refine aF (js++[y],L++[⟨y.x,y.w,c⟩],es++[⟨.str y.x,y.w.v,c⟩],c+1) (by dsimp only;rw[Km,jL,jM];omega) ⟨or,?_,?_,by simp only[go_sem,reduceIte,jA,jB,jC,jD,reduceCtorEq,jE,jF],q5.add y.x y.w,by rw[Kd,Kd,q6];rfl,by exact Ew EE.b q7 hns,fun z hz=>?_,fun k hk hkn=>?_⟩ (by simp only[WkL,aD,jH,jI,jJ,go_sem,reduceIte,jA,jB,jC,jD,reduceCtorEq,jE,jF])
  ·simp only[q2,(fls:(m=n)=False),(fls:(m=nx)=False),(fls:(m=nx1+2)=False),go_sem,reduceIte,jA,jB,jC,jD,reduceCtorEq,jE,jF]
  ·simp only[(fls:(nx=n)=False),(fls:(nx=nx1+2)=False),Kd,Kf,Kg,go_sem,reduceIte,jA,jB,jC,jD,reduceCtorEq,jE,jF]
  ·rcases KE.1 hz with hz|hz
   ·exact q8 z hz
   rw[Kh] at hz;subst hz;exact hy
  simp only[Kb];rw[if_neg hkn,if_neg or,if_neg or,if_neg or];exact q9 k hk hkn
 intro aAc;refine au ?_;rw[←hQ];refine au ?_;refine⟨hp,Ka _,es,c,L,q4,q5,?_,q9⟩;rw[q6];exact(Gh EE.b hb0 q7 q8 fun y hy=>aAc y.me (Ke.2 ⟨y,hy,rfl⟩)).map _
theorem oD(m:Nat)(es0:List ME)(c0:Nat)(l:List Tr)(h0:sI es0 c0 l)(h:Hp)(nx:Nat)(hm:h m=some (.mp es0 c0)):
 aR Tryz.prog 126 [.map m] h nx fun v h' nx'=>∃n es c,v= .map n∧nx≤n∧n<nx'∧h' n=some (.mp es c)∧sI es c l∧∀k,k<nx→h' k=h k:=by
 refine aB L.bAK fun hd=>?_;have hmx:=hd _ _ hm;obtain⟨L0,hL,hx,hl⟩:=h0;have e:∀L:List EE,(L.map EE.p).map Kv=L.map EE.x:=fun L=>by rw[List.map_map];rfl
 refine ZK ?_;refine au ?_;refine pF ?_;refine au ?_;refine aV ((uv m nx es0 c0 L0 hL hx _ (nx+1) or (by simp only[hm,(fls:(m=nx)=False),go_sem,reduceIte,jA,jB,jC,jD,reduceCtorEq,jE,jF]) (by simp only[go_sem,reduceIte,jA,jB,jC,jD,reduceCtorEq,jE,jF])).dom.mono ?_);rintro v h2 nx2 hle ⟨⟨es,c,L,p1,p2,p3,p4⟩,hd2,_⟩;unfold bW;refine Zn ?_;refine au ?_;refine aC h2 (Ka _) ⟨nx,es,c,rfl,KB _,Zw,p1,⟨L,p2,?_,fun x=>?_⟩,fun k hk=>?_⟩
 ·have:=(p3.map Kv).nodup_iff;rw[e,e] at this;exact this.2 hx
 ·rw[←hl x];exact EV p3 (by
   have:=(p3.map Kv).nodup_iff;rw[e,e] at this;rw[e];exact this.2 hx) x
 rw[p4 k or or];simp only[Kb];rw[if_neg or]
def nM:List ByteArray→List Vl→List Tr
 |x::xs,v::vs=>⟨x,v⟩::nM xs vs
 |_,_=>[]
def fM(l:List Tr)(vars:List ByteArray):List Vl:=vars.map fun x=>(lkB x l).getD oQ
theorem od:∀(xs:List ByteArray) (vs:List Vl) (i:Nat) (h1:i<xs.length) (h2:i<vs.length),nM (xs.take (i+1)) (vs.take (i+1))=nM (xs.take i) (vs.take i)++[⟨xs[i],vs[i]⟩]
 |x::xs,v::vs,0,_,_=>by simp[nM]
 |x::xs,v::vs,i+1,h1,h2=>by
  simp only[List.take_succ_cons,nM,List.getElem_cons_succ,jP];rw[od xs vs i (by simpa using h1) (by simpa using h2)]
theorem qw{x:ByteArray}:∀{xs:List ByteArray} {vs:List Vl},x∉xs→lkB x (nM xs vs)=none
 | [],_,_=>rfl
 |_::_,[],_=>rfl
 |y::xs,v::vs,h=>by
  simp only[Ki,not_or] at h;unfold nM lkB;rw[if_neg (fun e=>h.1 e.symm)];exact qw h.2
theorem Ch{l:List ByteArray}(h:l.Nodup){i:Nat}(hi:i<l.length):l[i]∉l.take i:=by
 have h2:(l.take (i+1)).Nodup:=(List.take_sublist _ _).nodup h;rw[Ko hi,Kw] at h2;exact fun e=>h2.2.2 _ e _ (Kh.2 rfl) rfl
theorem uY(o1 o2:Own)(xs:List ByteArray)(vs:List Vl)(hn:xs.Nodup)(hl:xs.length≤1000000000)(h:Hp)(nx:Nat):
 aR Tryz.prog 79 [.sl .leaf o1 (xs.map V.str),vls o2 vs] h nx fun v h' nx'=>(if xs.length=vs.length then∃n es c,v= .tup [.map n, .nilIface]∧nx≤n∧n<nx'∧h' n=some (.mp es c)∧sI es c (nM xs vs) else v= .tup [.aAG,dC 6])∧∀k,k<nx→h' k=h k:=by
 refine aB L.bA0 fun hd=>?_;have hd:aS h nx:=hd;refine ZK ?_;by_cases hne:xs.length=vs.length
 ·simp only[if_pos hne];have g:((xs.length:Int) != (vs.length:Int))=false:=bnf;refine aue (e3 g (@jK ByteArray V) (@jK Vl V)) ?_;refine pF ?_;refine aue (e2 (@jK ByteArray V) (@jK Vl V)) ?_
  refine aP (fun i:Nat=>aD 31 0 [(1,vls o2 vs),(4, .aAG),(5, .nilIface),(6, .map nx),(16, .sl .leaf o1 (xs.map V.str)),(17, .int .i64 xs.length),(18, .int .i64 i)])
   (fun i hp nx1=>i≤xs.length∧nx<nx1∧aS hp nx1∧(∀k,k<nx→hp k=h k)∧∃es c,hp nx=some (.mp es c)∧sI es c (nM (xs.take i) (vs.take i)))
   (fun i=>xs.length-i) 0 ⟨Kz _,Zw,by exact dmo hd,fun k hk=>by simp only[Kb];rw[if_neg or],[],0,by simp only[go_sem,reduceIte,jA,jB,jC,jD,reduceCtorEq,jE,jF],wu⟩ (by simp only[WkL,aD,jH,jI,jJ,jK,go_sem,reduceIte,jA,jB,jC,jD,reduceCtorEq,jE,jF]) ?_
  rintro i hp nx1 ⟨hi,hnx,hdm,hsm,es,c,hmp,aDw⟩;generalize hQ:aZ _ _ _ _ _=Q0;refine Zk ?_;rcases KA i xs.length with hlt|hge
  ·have hlv:i<vs.length:=or;have hc:decide ((i:Int)<(xs.length:Int))=true:=dct;have hg:=aL V.str xs i hlt;have hg2:=aL Vl.v vs i hlv;have hw:IntKind.i64.wrap ((i:Int)+1)=((i+1:Nat):Int):=wrp;have htk:=od xs vs i hlt hlv;have hno:lkB xs[i] (nM (xs.take i) (vs.take i))=none:=qw (Ch hn hlt);have hx:=aDw.at xs[i];rw[hno] at hx;have hvf:=Vl.aAC vs[i];refine aue (e10 hc hg hg2 hlt hlv hvf (@jK ByteArray V) (@jK Vl V) jG hmp) ?_;refine mK (es:=es) (c:=c) (n:=nx) rfl rfl (by simp only[hmp,hnx,go_sem,reduceIte,jA,jB,jC,jD,reduceCtorEq,jE,jF]) hx ?_;refine Zn ?_;refine aue hw ?_;rw[←hQ];exact aF (i+1) or ⟨hlt,or,dmo hdm,fun k hk=>by simp only[Kb];rw[if_neg or];exact hsm k hk,_,_,by simp only[go_sem,reduceIte,jA,jB,jC,jD,reduceCtorEq,jE,jF];rfl,by rw[htk];exact aDw.add ⟨xs[i],vs[i]⟩ hno⟩ (by simp only[WkL,aD,jH,jI,jJ,go_sem,reduceIte,jA,jB,jC,jD,reduceCtorEq,jE,jF])
  have hc:decide ((i:Int)<(xs.length:Int))=false:=dcf;refine aue hc ?_;rw[←hQ];refine au ?_;rw[Kc or,Kc or] at aDw;exact aN hp (Ka _) ⟨⟨nx,es,c,rfl,KB _,hnx,hmp,aDw⟩,hsm⟩
 simp only[if_neg hne];have g:((xs.length:Int) != (vs.length:Int))=true:=bnt;refine aue (e3 g (@jK ByteArray V) (@jK Vl V)) ?_;exact aN _ (Ka _) ⟨rfl,fun k hk=>rfl⟩
theorem yF(o:Own)(xs:List ByteArray)(hl:xs.length≤1000000000)(l:List Tr)(n:Nat)(es:List ME)(c:Nat)(h:Hp)(hm:h n=some (.mp es c))(he:af es l):aM Tryz.prog 82 [.sl .leaf o (xs.map V.str), .map n] h (.sl (.agg 3) .free ((fM l xs).map Vl.v)):=by
 refine gJ (fun L=>⟨fun n e=>(by cases e),bF (fun x=>Vl.aAN L x) _⟩) fun h' nx hh=>aB L.bAx fun hd=>?_;have hd:aS h' nx:=hd;refine ZK ?_;have hn1:=hh _ _ hm rfl;have hn2:n<nx:=hd _ _ hn1;have hcap:xs.length*32≤140737488355328:=or;refine aue (e3 (@jK ByteArray V) hcap jG) ?_;generalize hRC:mD (lwp Tryz.prog _) _=RC
 refine aP (fun q:Nat×Nat=>aD 25 0 [(1, .map n),(4, .sl (.agg 3) .nil []),(5, .rs q.2 (.agg 3) 0 q.1),(11, .sl .leaf o (xs.map V.str)),(12, .int .i64 xs.length),(13, .int .i64 q.1)])
  (fun q hp nx1=>q.1≤xs.length∧nx<nx1∧aS hp nx1∧Hp.same nx h' hp∧nx≤q.2∧hp q.2=some (.arr (.agg 3) ((fM l (xs.take q.1)).map Vl.v)))
  (fun q=>xs.length-q.1) (0,nx) ⟨Kz _,Zw,by exact dmo hd,by exact kep Hp.same.aAr,Zw,by simp only[List.take_zero,fM,Kg,go_sem,reduceIte,jA,jB,jC,jD,reduceCtorEq,jE,jF]⟩ (by simp only[WkL,aD,jH,jI,jJ,jK,go_sem,reduceIte,jA,jB,jC,jD,reduceCtorEq,jE,jF]) ?_
 rintro⟨i,id⟩ hp nx1 ⟨hi,hnx,hdm,hsm,aG7,hid⟩;generalize hQ:aZ _ _ _ _ _=Q0;dsimp only at hi aG7 hid;refine Zk ?_;have hme:hp n=some (.mp es c):=(hsm n hn2).trans hn1;have aC8:id<nx1:=hdm _ _ hid;rcases KA i xs.length with hlt|hge
 ·have hc:decide ((i:Int)<(xs.length:Int))=true:=dct;have hg:=aL V.str xs i hlt;have hw:IntKind.i64.wrap ((i:Int)+1)=((i+1:Nat):Int):=wrp;have hn3:n<nx1:=or;have hrs:fM l (xs.take (i+1))=fM l (xs.take i)++[(lkB xs[i] l).getD oQ]:=by
   unfold fM;rw[Ko hlt,Kd];rfl
  have hrl:(fM l (xs.take i)).length=i:=by unfold fM;rw[jK,List.length_take];omega
  have hx:=he xs[i];obtain⟨q,hq,hget⟩:∃q,bT (.plain .leaf [.str]) (.str xs[i]) es=some q∧jW false (.agg [.int .i64 0, .int .i64 0, .str ⟨#[]⟩]) es q=((lkB xs[i] l).getD oQ).v:=by
   cases k:lkB xs[i] l with
   |none=>rw[k] at hx;exact⟨none,hx,rfl⟩
   |some w=>
    rw[k] at hx;obtain⟨j,hj1,hj2,hj3⟩:=hx;exact⟨some j,hj1,hj2⟩
  generalize (lkB xs[i] l).getD oQ=w at hrs hget;generalize fM l (xs.take i)=W at*;have hml:(W.map Vl.v).length=i:=by rw[jK];exact hrl
  have htk:(W.map Vl.v).take i=W.map Vl.v:=Kc or;have hwf:=Vl.aAC w;refine aue (e12 hc hg hlt hw hme hn3 hq hget hid aC8 hml (e3 htk hwf (@jK ByteArray V))) ?_;rw[←hQ];exact aF (i+1,nx1+1) Zw ⟨hlt,or,dmo hdm,kep hsm,Zw,by dsimp only;rw[hrs,Kd];simp only[Kf,Kg,go_sem,reduceIte,jA,jB,jC,jD,reduceCtorEq,jE,jF]⟩ (by simp only[WkL,aD,jH,jI,jJ,go_sem,reduceIte,jA,jB,jC,jD,reduceCtorEq,jE,jF])
 have hc:decide ((i:Int)<(xs.length:Int))=false:=dcf;refine aue hc ?_;rw[←hQ];refine au ?_;rw[Kc or] at hid;have hie:i=xs.length:=or;rw[hie];rw[←hRC];have hrl:((fM l xs).map Vl.v).length=xs.length:=by unfold fM;rw[jK,jK]
 refine dA (lB (t:=5) (n:=id) (k:= .agg 3) (off:=0) (len:=xs.length) (es:=(fM l xs).map Vl.v) rfl hid or) ?_;have htk:(KK 0 ((fM l xs).map Vl.v)).take xs.length=(fM l xs).map Vl.v:=by rw[KH];exact Kc or
 rw[htk];refine au ?_;refine aC _ (Ka _) ⟨rfl,?_⟩;refine fun m b e=>?_;have:=hd _ _ e;simp only[Hp.del];rw[if_neg or];exact hsm.le hd (Ka _) m b e
def mE(p:Vl×Int):Int×Int:=if p.2≠0 then (0,p.2) else if p.1.k≠1 then (0,7) else (p.1.n,0)
def opB(op a b:Int):Int:=if op=1 then a+b else if op=2 then a-b else a*b
def bV(l:List Tr):Nat→Ex→Vl×Int
 |0, .mk _ t _ _=>cH t l
 |n+1, .mk op t _ ks=>if op=0 then cH t l else match ks with
  | [a,b]=>if (mE (bV l n a)).2≠0 then (oQ,(mE (bV l n a)).2) else if (mE (bV l n b)).2≠0 then (oQ,(mE (bV l n b)).2) else ofV (opB op (mE (bV l n a)).1 (mE (bV l n b)).1)
  |_=>(oQ,0)
theorem sw{t:Tr}{l:List Tr}(h:(cH t l).2=0):bU (cH t l).1=true:=by
 unfold cH at h⊢;split
 ·rename_i h0;rw[if_pos h0] at h;split
  ·rename_i h1;exact h1
  rename_i h1;rw[if_neg h1] at h;cases h
 rename_i h0;rw[if_neg h0] at h;cases hk:lkB t.x l with
 |none=>rw[hk] at h;cases h
 |some w=>
  rw[hk] at h;simp only at h⊢;split
  ·rename_i h1;exact h1
  rename_i h1;rw[if_neg h1] at h;cases h
theorem Hh{n:Int}(h:(ofV n).2=0):bU (ofV n).1=true:=by
 unfold ofV at h⊢;split
 ·rename_i hb;simp only[bU];rw[hb];rfl
 rename_i hb;rw[if_neg hb] at h;cases h
theorem xB{l:List Tr}:∀{n:Nat} {e:Ex},dR n e=true→(bV l n e).2=0→bU (bV l n e).1=true
 |0, .mk op t o ks,_,h=>sw h
 |n+1, .mk op t o ks,hr,h=>by
  unfold bV at h⊢;unfold dR at hr;by_cases h0:op=0
  ·rw[if_pos h0] at h⊢;exact sw h
  rw[if_neg h0] at h hr⊢;match ks,hr with
  | [a,b],_=>
   simp only at h⊢;split
   ·rename_i h1;rw[if_pos h1] at h;exact absurd h h1
   rename_i h1;rw[if_neg h1] at h;split
   ·rename_i h2;rw[if_pos h2] at h;exact absurd h h2
   rename_i h2;rw[if_neg h2] at h;exact Hh h
theorem A9{l:List Tr}{n:Nat}{e:Ex}(hr:dR n e=true):-2147483647≤(mE (bV l n e)).1∧(mE (bV l n e)).1≤2147483647:=by
 unfold mE;split
 ·simp
 split
 ·simp
 rename_i h _;exact pt (xB hr (Classical.not_not.1 h))
theorem Hl{a b:Int}(a1:-2147483647≤a)(a2:a≤2147483647)(b1:-2147483647≤b)(b2:b≤2147483647):-4611686014132420609≤a*b∧a*b≤4611686014132420609:=by
 have h1:a.natAbs*b.natAbs≤2147483647*2147483647:=Nat.mul_le_mul or or;have h2:(a*b).natAbs=a.natAbs*b.natAbs:=Int.natAbs_mul a b;omega
theorem Hk{a b:Int}(a1:-2147483647≤a)(a2:a≤2147483647)(b1:-2147483647≤b)(b2:b≤2147483647):IntKind.i64.wrap (a*b)=a*b:=by
 have:=Hl a1 a2 b1 b2;exact wrp
theorem G9(e:Int):veq (pO.iface true) (dC e) V.nilIface=some (decide (e=0)):=by
 unfold dC;split
 ·rename_i h;rw[decide_eq_true h];rfl
 rename_i h;rw[decide_eq_false h];rfl
theorem BE{e:Ex}{p:Vl×Int}{n:Nat}{es:List ME}{c:Nat}{h:Hp}(hm:h n=some (.mp es c))(hE:∀h':Hp,h' n=some (.mp es c)→aM Tryz.prog 46 [e.v, .map n] h' (.tup [p.1.v,dC p.2])):
 aM Tryz.prog 92 [e.v, .map n] h (.tup [.int .i64 (mE p).1,dC (mE p).2]):=by
 refine aJ (fun L=>⟨trivial,dS L _,trivial⟩) fun h' nx hh=>aB L.bAh fun hd=>?_;refine ZK ?_;have hn1:=hh _ _ hm rfl;have hn2:n<nx:=hd _ _ hn1;have C:=hE (h'.set nx (.arr (.agg 6) [e.v])) (by simp only[Kb];rw[if_neg or];exact hn1);have hf:=Ex.aAC e;obtain⟨X,hX⟩:∃X,e.v=X:=⟨_,rfl⟩;rw[hX] at C hf⊢;have hv:=G9 p.2;have hwf:=Vl.aAC p.1;obtain⟨T,hT,hk0,hk1⟩:∃T,p.1.v= .agg T∧T.getD 0 (.tup [])= .int .i64 p.1.k∧T.getD 1 (.tup [])= .int .i64 p.1.n:=⟨_,rfl,rfl,rfl⟩;rw[hT] at C hwf;unfold mE;by_cases h0:p.2=0
 ·rw[decide_eq_true h0] at hv;rw[if_neg (by simp[h0])];by_cases h1:p.1.k=1
  ·have g1:(p.1.k != 1)=false:=bnf;rw[if_neg (by simp[h1])];refine aue hf ?_;refine aH C rfl (aI _) ?_;refine aue (e5 hv hwf hk0 hk1 g1) ?_;exact aN h' (leo hd) ⟨rfl,rfl⟩
  have g1:(p.1.k != 1)=true:=bnt;rw[if_pos h1];refine aue hf ?_;refine aH C rfl (aI _) ?_;refine aue (e5 hv hwf hk0 hk1 g1) ?_;exact aN h' (leo hd) ⟨rfl,rfl⟩
 rw[decide_eq_false h0] at hv;rw[if_pos h0];refine aue hf ?_;refine aH C rfl (aI _) ?_;refine aue (e3 hv hwf hk0) ?_;exact aN h' (leo hd) ⟨rfl,rfl⟩
theorem vM(l:List Tr):∀(k:Nat) (e:Ex),dR k e=true→∀(n:Nat) (es:List ME) (c:Nat) (h:Hp),h n=some (.mp es c)→af es l→aM Tryz.prog 46 [e.v, .map n] h (.tup [(bV l k e).1.v,dC (bV l k e).2]):=by
 have base:∀(t:Tr) (o:Own) (ks:List Ex) (n:Nat) (es:List ME) (c:Nat) (h:Hp),h n=some (.mp es c)→af es l→aM Tryz.prog 46 [(Ex.mk 0 t o ks).v, .map n] h (.tup [(cH t l).1.v,dC (cH t l).2]):=by
  intro t o ks n es c h hm he;refine aJ (fun L=>⟨Vl.aAN L _,dS L _,trivial⟩) fun h' nx hh=>aB L.aYH fun hd=>?_;refine ZK ?_;have hn1:=hh _ _ hm rfl;have hn2:n<nx:=hd _ _ hn1;have hev:(Ex.mk 0 t o ks).v= .agg [.int .i64 0, .str t.x, .int .i64 t.w.k, .int .i64 t.w.n, .str t.w.s, .sl (.agg 6) o (ks.map Ex.v)]:=by rw[Ex.aAq];rfl
  rw[hev];have hwf:=Vl.aAC (cH t l).1;have hz:((0:Int)==0)=true:=rfl;have C:∀h,h n=some (.mp es c)→aM Tryz.prog 48 [.agg [.str t.x, .int .i64 t.w.k, .int .i64 t.w.n, .str t.w.s], .map n] h (.tup [(cH t l).1.v,dC (cH t l).2]):=fun h hm=>vK t l n es c h hm he;refine aue hz ?_;refine aH (C _ ?_) rfl (aI _) ?_
  ·simp only[hn1,hn2,go_sem,reduceIte,jA,jB,jC,jD,reduceCtorEq,jE,jF]
  refine aue hwf ?_;refine bC (by simp only[hwf,bI hwf,go_sem,reduceIte,jA,jB,jC,jD,reduceCtorEq,jE,jF]) h' (leo hd) ⟨?_,rfl⟩;simp only[hwf,bI hwf,go_sem,reduceIte,jA,jB,jC,jD,reduceCtorEq,jE,jF]
 intro k;induction k with
 |zero=>
  rintro⟨op,t,o,ks⟩ hr n es c h hm he;obtain⟨rfl,_⟩:=of_decide_eq_true hr;exact base t o ks n es c h hm he
 |succ k ih=>
  rintro⟨op,t,o,ks⟩ hr n es c h hm he;by_cases h0:op=0
  ·subst h0;unfold bV;rw[if_pos rfl];exact base t o ks n es c h hm he
  unfold dR at hr;unfold bV;rw[if_neg h0] at hr⊢;match ks,hr with
  | [a,b],hr=>
   obtain⟨_,_,_,ha,hb⟩:=of_decide_eq_true hr;simp only;refine aJ (fun L=>⟨Vl.aAN L _,dS L _,trivial⟩) fun h' nx hh=>aB L.aYH fun hd=>?_;refine ZK ?_;have hn1:=hh _ _ hm rfl;have hn2:n<nx:=hd _ _ hn1;have hev:(Ex.mk op t o [a,b]).v= .agg [.int .i64 op, .str t.x, .int .i64 t.w.k, .int .i64 t.w.n, .str t.w.s, .sl (.agg 6) o [a.v,b.v]]:=by rw[Ex.aAq];rfl
   rw[hev];have CA:∀h,h n=some (.mp es c)→aM Tryz.prog 92 [a.v, .map n] h (.tup [.int .i64 (mE (bV l k a)).1,dC (mE (bV l k a)).2]):=fun h hm=>BE hm fun h' hm'=>ih a ha n es c h' hm' he;have CB:∀h,h n=some (.mp es c)→aM Tryz.prog 92 [b.v, .map n] h (.tup [.int .i64 (mE (bV l k b)).1,dC (mE (bV l k b)).2]):=fun h hm=>BE hm fun h' hm'=>ih b hb n es c h' hm' he;obtain⟨a1,a2⟩:=A9 (l:=l) ha;obtain⟨b1,b2⟩:=A9 (l:=l) hb;have hfa:=Ex.aAC a;have hfb:=Ex.aAC b;generalize mE (bV l k a)=pa at*;generalize mE (bV l k b)=pb at*;have va:=G9 pa.2;have vb:=G9 pb.2;have hz:(op==0)=false:=bqf;generalize a.v=A at*;generalize b.v=B at*;refine aue (e2 hz hfa) ?_;refine aH (CA _ ?_) rfl (aI _) ?_
   ·simp only[hn1,hn2,go_sem,reduceIte,jA,jB,jC,jD,reduceCtorEq,jE,jF]
   by_cases ea:pa.2=0
   ·rw[decide_eq_true ea] at va;rw[if_neg (by simp[ea])];refine aue (e3 hz hfb va) ?_;refine aH (CB _ ?_) rfl (aI _) ?_
    ·simp only[hn1,hn2,go_sem,reduceIte,jA,jB,jC,jD,reduceCtorEq,jE,jF]
    by_cases eb:pb.2=0
    ·rw[decide_eq_true eb] at vb;rw[if_neg (by simp[eb])];have C1:=fun h=>DM (opB op pa.1 pb.1) h;have hwf:=Vl.aAC (ofV (opB op pa.1 pb.1)).1;unfold opB at C1 hwf⊢;by_cases o1:op=1
     ·have g1:(op==1)=true:=bqt;rw[if_pos o1] at C1 hwf⊢;have hw:IntKind.i64.wrap (pa.1+pb.1)=pa.1+pb.1:=wrp;refine aue (e4 g1 vb hw hwf) ?_;refine bC (by simp only[hwf,bI hwf,go_sem,reduceIte,jA,jB,jC,jD,reduceCtorEq,jE,jF]) h' (leo hd) ⟨?_,rfl⟩;simp only[hwf,bI hwf,go_sem,reduceIte,jA,jB,jC,jD,reduceCtorEq,jE,jF]
     have g1:(op==1)=false:=bqf;rw[if_neg o1] at C1 hwf⊢;by_cases o2:op=2
     ·have g2:(op==2)=true:=bqt;rw[if_pos o2] at C1 hwf⊢;have hw:IntKind.i64.wrap (pa.1-pb.1)=pa.1-pb.1:=wrp;refine aue (e5 g1 g2 vb hw hwf) ?_;refine bC (by simp only[hwf,bI hwf,go_sem,reduceIte,jA,jB,jC,jD,reduceCtorEq,jE,jF]) h' (leo hd) ⟨?_,rfl⟩;simp only[hwf,bI hwf,go_sem,reduceIte,jA,jB,jC,jD,reduceCtorEq,jE,jF]
     have g2:(op==2)=false:=bqf;rw[if_neg o2] at C1 hwf⊢;have hw:IntKind.i64.wrap (pa.1*pb.1)=pa.1*pb.1:=Hk a1 a2 b1 b2;refine aue (e5 g1 g2 vb hw hwf) ?_;refine bC (by simp only[hwf,bI hwf,go_sem,reduceIte,jA,jB,jC,jD,reduceCtorEq,jE,jF]) h' (leo hd) ⟨?_,rfl⟩;simp only[hwf,bI hwf,go_sem,reduceIte,jA,jB,jC,jD,reduceCtorEq,jE,jF]
    rw[decide_eq_false eb] at vb;rw[if_pos eb];refine aue (e2 hz vb) ?_;refine bC (by simp only[go_sem,reduceIte,jA,jB,jC,jD,reduceCtorEq,jE,jF]) h' (leo hd) ⟨?_,rfl⟩;refine Zn ?_;rfl
   rw[decide_eq_false ea] at va;rw[if_pos ea];refine aue (e2 hz va) ?_;refine bC (by simp only[go_sem,reduceIte,jA,jB,jC,jD,reduceCtorEq,jE,jF]) h' (leo hd) ⟨?_,rfl⟩;refine Zn ?_;rfl
end Go.Proofs.YtlhedpgobaellaaGreatDoor
namespace Go.Proofs.YtlhedpgobaellaaGreatDoor
open Go.RowKit Go.Sort
attribute [local irreducible] Kk
def nu(op:Int)(a b:Vl):Bool×Int:=
 if 3≤op∧(a.k≠1∨b.k≠1) then (false,7) else
 (if op=1 then decide (a=b) else if op=2 then !decide (a=b) else if op=3 then decide (a.n<b.n) else if op=4 then decide (a.n≤b.n) else if op=5 then decide (b.n<a.n) else decide (b.n≤a.n),0)
theorem xz(op:Int)(a b:Vl)(h1:1≤op)(h6:op≤6)(ha:bU a=true)(hb:bU b=true)(h:Hp):aM Tryz.prog 47 [.int .i64 op,a.v,b.v] h (.tup [.bool (nu op a b).1,dC (nu op a b).2]):=by
 refine aJ (fun L=>⟨trivial,dS L _,trivial⟩) fun h' nx hh=>aB L.bBQ fun hd=>?_;simp only[Kp,Kj,Kq,Ks,Kt,Ku,Kx,Ky,V.undef];have C1:=fun h=>iP a h;have C2:=fun h=>iP b h;rw[ha] at C1;rw[hb] at C2;have hv:=pg a b;have hfa:=Vl.aAC a;have hfb:=Vl.aAC b;obtain⟨A,hA,ak,an⟩:∃T,a.v= .agg T∧T.getD 0 (.tup [])= .int .i64 a.k∧T.getD 1 (.tup [])= .int .i64 a.n:=⟨_,rfl,rfl,rfl⟩;obtain⟨B,hB,bk,bn⟩:∃T,b.v= .agg T∧T.getD 0 (.tup [])= .int .i64 b.k∧T.getD 1 (.tup [])= .int .i64 b.n:=⟨_,rfl,rfl,rfl⟩;rw[hA] at C1 hv hfa⊢;rw[hB] at C2 hv hfb⊢;have z1:decide (op<1)=false:=dcf;have z6:decide ((6:Int)<op)=false:=dcf;unfold nu;by_cases h3:3≤op
 ·have z3:decide (3≤op)=true:=dct;have e1:(op==1)=false:=bqf;have e2':(op==2)=false:=bqf;have n1:¬op=1:=or;have n2:¬op=2:=or;by_cases ka:a.k=1
  ·have ga:(a.k != 1)=false:=bnf;by_cases kb:b.k=1
   ·have gb:(b.k != 1)=false:=bnf;rw[if_neg (by simp[ka,kb]),if_neg n1,if_neg n2];by_cases o3:op=3
    ·have g3:(op==3)=true:=bqt;rw[if_pos o3];refine aue (e14 z1 z6 z3 hfa hfb ak an bk bn e1 e2' ga gb g3) ?_;exact aN h' (leo hd) ⟨rfl,rfl⟩
    have g3:(op==3)=false:=bqf;rw[if_neg o3];by_cases o4:op=4
    ·have g4:(op==4)=true:=bqt;rw[if_pos o4];refine aue (e14 z1 z6 z3 hfa hfb ak an bk bn e1 e2' ga gb (e2 g3 g4)) ?_;exact aN h' (leo hd) ⟨rfl,rfl⟩
    have g4:(op==4)=false:=bqf;rw[if_neg o4];by_cases o5:op=5
    ·have g5:(op==5)=true:=bqt;rw[if_pos o5];refine aue (e14 z1 z6 z3 hfa hfb ak an bk bn e1 e2' ga gb (e3 g3 g4 g5)) ?_;exact aN h' (leo hd) ⟨rfl,rfl⟩
    have g5:(op==5)=false:=bqf;rw[if_neg o5];refine aue (e14 z1 z6 z3 hfa hfb ak an bk bn e1 e2' ga gb (e3 g3 g4 g5)) ?_;exact aN h' (leo hd) ⟨rfl,rfl⟩
   have gb:(b.k != 1)=true:=bnt;rw[if_pos ⟨h3, .inr kb⟩];refine aue (e12 z1 z6 z3 hfa hfb ak an bk bn ga gb trivial) ?_;exact aN h' (leo hd) ⟨rfl,rfl⟩
  have ga:(a.k != 1)=true:=bnt;rw[if_pos ⟨h3, .inl ka⟩];refine aue (e10 z1 z6 z3 hfa hfb ak an bk bn ga) ?_;exact aN h' (leo hd) ⟨rfl,rfl⟩
 have z3:decide (3≤op)=false:=dcf;rw[if_neg (fun e=>h3 e.1)];by_cases o1:op=1
 ·have g1:(op==1)=true:=bqt;rw[if_pos o1];refine aue (e7 z1 z6 z3 hfa hfb hv g1) ?_;exact aN h' (leo hd) ⟨rfl,rfl⟩
 have g1:(op==1)=false:=bqf;have g2:(op==2)=true:=bqt;rw[if_neg o1,if_pos or];refine aue (e8 z1 z6 z3 hfa hfb hv g1 g2) ?_;exact aN h' (leo hd) ⟨rfl,rfl⟩
theorem tQ(l:Li)(hr:bO l=true)(h3:l.k=3)(h:Hp):aM Tryz.prog 45 [l.v] h (.bool true):=by
 refine aJ (fun L=>trivial) fun h' nx hh=>aB L.bBR fun hd=>?_;simp only[Kp,Kj,Kq,Ks,Kt,Ku,Kx,Ky,V.undef];have C1:=fun h=>l8 l h;rw[hr] at C1;have hf:=Li.aAC l;obtain⟨T,hT,hk⟩:∃T,l.v= .agg T∧T.getD 0 (.tup [])= .int .i64 l.k:=⟨_,rfl,rfl⟩;rw[hT] at C1 hf⊢;have g:(l.k==3)=true:=bqt;refine aue (e3 hf hk g) ?_;exact aC h' (leo hd) ⟨rfl,rfl⟩
theorem mT{l:Li}(hr:bO l=true)(h3:l.k=3):1≤l.op∧l.op≤6∧dR 20 l.x=true∧dR 20 l.y=true:=by
 unfold bO at hr;rw[if_neg or] at hr;simp only[Bool.and_eq_true,decide_eq_true_eq] at hr;exact⟨or,or,hr.1.2,hr.2⟩
def mN(l:List Tr)(x:Li):Bool×Int:=if (bV l 20 x.x).2≠0 then (false,(bV l 20 x.x).2) else if (bV l 20 x.y).2≠0 then (false,(bV l 20 x.y).2) else nu x.op (bV l 20 x.x).1 (bV l 20 x.y).1
theorem AG(l:List Tr)(x:Li)(hr:bO x=true)(h3:x.k=3)(n:Nat)(es:List ME)(c:Nat)(h:Hp)(hm:h n=some (.mp es c))(he:af es l):aM Tryz.prog 11 [x.v, .map n] h (.tup [.bool (mN l x).1,dC (mN l x).2]):=by
 refine aJ (fun L=>⟨trivial,dS L _,trivial⟩) fun h' nx hh=>aB L.g4z fun hd=>?_;simp only[Kp,Kj,Kq,Ks,Kt,Ku,Kx,Ky,V.undef];obtain⟨p1,p6,px,py⟩:=mT hr h3;have hn1:=hh _ _ hm rfl;have hn2:n<nx:=hd _ _ hn1;have C1:=fun h=>tQ x hr h3 h;have CX:=fun h hm=>vM l 20 x.x px n es c h hm he;have CY:=fun h hm=>vM l 20 x.y py n es c h hm he;have hvx:=dK (bV l 20 x.x).2;have hvy:=dK (bV l 20 x.y).2;have hrx:=fun e=>xB (l:=l) px e;have hry:=fun e=>xB (l:=l) py e;unfold mN;generalize bV l 20 x.x=P at*;generalize bV l 20 x.y=Q at*;have hfP:=Vl.aAC P.1;have hfQ:=Vl.aAC Q.1;have hf:=Li.aAC x;have hXf:=Ex.aAC x.x;have hYf:=Ex.aAC x.y;obtain⟨T,hT,htx,hty,hto⟩:∃T,x.v= .agg T∧(.agg ((T.drop 4).take 6))=x.x.v∧(.agg ((T.drop 10).take 6))=x.y.v∧(V.agg T).cell 3= .int .i64 x.op:=⟨_,rfl,by rw[Ex.aAq];rfl,by rw[Ex.aAq];rfl,rfl⟩;have hlx:bB (.agg 6) 4 (.agg T)=x.x.v:=htx;have hly:bB (.agg 6) 10 (.agg T)=x.y.v:=hty;rw[hT] at C1 hf⊢;generalize x.x.v=X at*;generalize x.y.v=Y at*;have hto:T.getD 3 (.tup [])= .int .i64 x.op:=hto;refine aue (e4 hf hlx hly hXf) ?_;refine aH (CX _ ?_) rfl (aI _) ?_
 ·simp only[hn1,hn2,go_sem,reduceIte,Kq,Ks,KI,KC,reduceCtorEq,KD,KG]
 by_cases e1:P.2=0
 ·rw[decide_eq_true e1] at hvx;rw[if_neg (by simp[e1])];refine aue (e6 hf hlx hly hYf hvx hfP) ?_;refine aH (CY _ ?_) rfl (aI _) ?_
  ·simp only[hn1,hn2,go_sem,reduceIte,Kq,Ks,KI,KC,reduceCtorEq,KD,KG]
  by_cases e2':Q.2=0
  ·rw[decide_eq_true e2'] at hvy;rw[if_neg (by simp[e2'])];have C2:=fun h=>xz x.op P.1 Q.1 p1 p6 (hrx e1) (hry e2') h;clear C1;generalize P.1.v=PV at*;generalize Q.1.v=QV at*;refine aue (e6 hf hto hvy hfP hfQ hvx) ?_;exact aN h' (leo hd) ⟨rfl,rfl⟩
  rw[decide_eq_false e2'] at hvy;rw[if_pos e2'];refine aue (e5 hf hlx hly hvy hfQ) ?_;exact aN h' (leo hd) ⟨rfl,rfl⟩
 rw[decide_eq_false e1] at hvx;rw[if_pos e1];refine aue (e5 hf hlx hly hvx hfP) ?_;exact aN h' (leo hd) ⟨rfl,rfl⟩
end Go.Proofs.YtlhedpgobaellaaGreatDoor
namespace Go.Proofs.YtlhedpgobaellaaGreatDoor
open Go.RowKit Go.Sort
attribute [local irreducible] Kk
def dP(l:List Tr)(e:Ex):ByteArray:=if e.op≠0∨(lkB e.t.x l).isSome=true then ⟨#[]⟩ else e.t.x
theorem rD{l:List Tr}{e:Ex}(h:(dP l e).size≠0):lkB (dP l e) l=none:=by
 unfold dP at h⊢;split at h
 ·exact absurd rfl h
 rename_i hc;rw[if_neg hc];simp only[not_or,Bool.not_eq_true,Option.isSome_eq_false_iff,Option.isNone_iff_eq_none] at hc;exact hc.2
theorem cd(l:List Tr)(e:Ex)(n:Nat)(es:List ME)(c:Nat)(h:Hp)(hm:h n=some (.mp es c))(he:af es l):aM Tryz.prog 127 [e.v, .map n] h (.str (dP l e)):=by
 refine aJ (fun L=>trivial) fun h' nx hh=>aB L.bAJ fun hd=>?_;refine ZK ?_;have hn1:=hh _ _ hm rfl;have hn2:n<nx:=hd _ _ hn1;obtain⟨op,t,o,ks⟩:=e;have hev:(Ex.mk op t o ks).v= .agg [.int .i64 op, .str t.x, .int .i64 t.w.k, .int .i64 t.w.n, .str t.w.s, .sl (.agg 6) o (ks.map Ex.v)]:=by rw[Ex.aAq];rfl
 rw[hev];obtain⟨R,hR⟩:∃R,(if op≠0∨(lkB t.x l).isSome=true then ⟨#[]⟩ else t.x)=R:=⟨_,rfl⟩;have hu:dP l (Ex.mk op t o ks)=R:=hR;rw[hu];clear hu hev;have hx:=he t.x;cases k:lkB t.x l with
 |none=>
  rw[k] at hx hR;have hg0:jW true (.agg [.int .i64 0, .int .i64 0, .str ⟨#[]⟩]) es none= .tup [.agg [.int .i64 0, .int .i64 0, .str ⟨#[]⟩], .bool false]:=rfl;by_cases h0:op=0
  ·have g:(op != 0)=false:=bnf;refine aue (e5 hn1 hn2 hx hg0 g) ?_;refine aC h' (leo hd) ⟨?_,rfl⟩;rw[if_neg (by simp[h0])] at hR;rw[←hR];rfl
  have g:(op != 0)=true:=bnt;refine aue (e5 hn1 hn2 hx hg0 g) ?_;refine aC h' (leo hd) ⟨?_,rfl⟩;rw[if_pos (Or.inl h0)] at hR;rw[←hR];rfl
 |some w=>
  rw[k] at hx hR;obtain⟨j,hj1,hj2,hj3⟩:=hx;have hg0:jW true (.agg [.int .i64 0, .int .i64 0, .str ⟨#[]⟩]) es (some j)= .tup [w.v, .bool true]:=by rw[←hj2];rfl
  have hwf:=Vl.aAC w;by_cases h0:op=0
  ·have g:(op != 0)=false:=bnf;refine aue (e6 hn1 hn2 hj1 hg0 g hwf) ?_;refine aC h' (leo hd) ⟨?_,rfl⟩;rw[if_pos Zm] at hR;rw[←hR];rfl
  have g:(op != 0)=true:=bnt;refine aue (e6 hn1 hn2 hj1 hg0 g hwf) ?_;refine aC h' (leo hd) ⟨?_,rfl⟩;rw[if_pos (Or.inl h0)] at hR;rw[←hR];rfl
def tZ(l:List Tr)(x:ByteArray)(e:Ex):Option (List Tr)×Int:=if (bV l 20 e).2≠0 then (none,(bV l 20 e).2) else (some (l++[⟨x,(bV l 20 e).1⟩]),0)
def cZ(l:List Tr)(x:Li):Option (List Tr)×Int:=
 if x.op=1∧(dP l x.x).size≠0 then tZ l (dP l x.x) x.y
 else if x.op=1∧(dP l x.y).size≠0 then tZ l (dP l x.y) x.x
 else if (mN l x).2≠0∨(mN l x).1=false then (none,(mN l x).2) else (some l,0)
def Im(r:Option (List Tr)×Int)(nx:Nat)(v:V)(h':Hp)(nx':Nat):Prop:=match r.1 with
 |none=>v= .tup [.aAG, .bool false,dC r.2]
 |some l=>∃n es c,v= .tup [.map n, .bool true, .nilIface]∧nx≤n∧n<nx'∧h' n=some (.mp es c)∧sI es c l
theorem je(l:List Tr)(x:ByteArray)(hx:lkB x l=none)(e:Ex)(hr:dR 20 e=true)(n:Nat)(es:List ME)(c:Nat)(h:Hp)(nx:Nat)(hm:h n=some (.mp es c))(he:sI es c l):
 aR Tryz.prog 128 [.map n, .str x,e.v] h nx fun v h' nx'=>Im (tZ l x e) nx v h' nx'∧∀k,k<nx→h' k=h k:=by
 refine aB L.bAI fun hd=>?_;refine ZK ?_;have hn2:n<nx:=hd _ _ hm;have CX:=fun h hm=>vM l 20 e hr n es c h hm he.at
 have hv:=dK (bV l 20 e).2;unfold tZ;generalize bV l 20 e=P at*;have hfP:=Vl.aAC P.1;have hf:=Ex.aAC e;generalize e.v=X at*;refine aue hf ?_;refine aH (CX _ ?_) rfl (aI _) ?_
 ·simp only[hm,hn2,go_sem,reduceIte,jA,jB,jC,jD,reduceCtorEq,jE,jF]
 by_cases e1:P.2=0
 ·rw[decide_eq_true e1] at hv;rw[if_neg (by simp[e1])];refine aue (e2 hv hfP) ?_;refine aV ((oD n es c l he _ _ ?_).dom.mono ?_)
  ·simp only[hm,hn2,go_sem,reduceIte,jA,jB,jC,jD,reduceCtorEq,jE,jF]
  rintro v h2 nx2 hle ⟨⟨n2,es2,c2,rfl,p1,p2,p3,p4,p5⟩,hd2,_⟩;unfold bW;dsimp only at p1 p5;refine Zn ?_;have hx2:=p4.at x;rw[hx] at hx2;have hb9:h2 (nx+1)=some (.arr (.agg 3) [P.1.v]):=by rw[p5 (nx+1) or];simp only[go_sem,reduceIte,jA,jB,jC,jD,reduceCtorEq,jE,jF]
  have n9:nx+1<nx2:=or;have hk2:∀k,k<nx→h2 k=h k:=fun k hk=>by
   rw[p5 k or];simp only[Kb];repeat rw[if_neg or]
  refine aue (e3 hb9 hfP n9) ?_;refine mK (es:=es2) (c:=c2) (n:=n2) rfl rfl (by simp only[p3,go_sem,reduceIte,jA,jB,jC,jD,reduceCtorEq,jE,jF]) hx2 ?_;refine Zn ?_;refine au ?_;refine bE _ (Ka _) ⟨⟨n2,_,_,rfl,or,Zw,by simp only[Kb,if_true],p4.add ⟨x,P.1⟩ hx⟩,fun k hk=>?_⟩;simp only[Kb];rw[if_neg or];exact hk2 k hk
 rw[decide_eq_false e1] at hv;rw[if_pos e1];refine aue (e2 hv hfP) ?_;refine⟨_,Ka _,rfl,fun k hk=>?_⟩;simp only[Kb];repeat rw[if_neg or]
theorem xM(l:List Tr)(x:Li)(hr:bO x=true)(h3:x.k=3)(n:Nat)(es:List ME)(c:Nat)(h:Hp)(nx:Nat)(hm:h n=some (.mp es c))(he:sI es c l):
 aR Tryz.prog 81 [x.v, .map n] h nx fun v h' nx'=>Im (cZ l x) nx v h' nx'∧∀k,k<nx→h' k=h k:=by
 refine aB L.bAy fun hd=>?_;refine ZK ?_;have hn2:n<nx:=hd _ _ hm;obtain⟨p1,p6,px,py⟩:=mT hr h3;have C1:=fun h=>tQ x hr h3 h;have UX:=fun h hm=>cd l x.x n es c h hm he.at
 have UY:=fun h hm=>cd l x.y n es c h hm he.at
 have TT:=fun h hm=>AG l x hr h3 n es c h hm he.at
 have hf:=Li.aAC x;have hXf:=Ex.aAC x.x;have hYf:=Ex.aAC x.y;have SX:=fun hz h nx hm=>je l (dP l x.x) (rD hz) x.y py n es c h nx hm he;have SY:=fun hz h nx hm=>je l (dP l x.y) (rD hz) x.x px n es c h nx hm he;obtain⟨T,hT,htx,hty,hto⟩:∃T,x.v= .agg T∧(.agg ((T.drop 4).take 6))=x.x.v∧(.agg ((T.drop 10).take 6))=x.y.v∧(V.agg T).cell 3= .int .i64 x.op:=⟨_,rfl,by rw[Ex.aAq];rfl,by rw[Ex.aAq];rfl,rfl⟩;have hlx:bB (.agg 6) 4 (.agg T)=x.x.v:=htx;have hly:bB (.agg 6) 10 (.agg T)=x.y.v:=hty;have hto:T.getD 3 (.tup [])= .int .i64 x.op:=hto;rw[hT] at C1 TT hf⊢;unfold cZ;generalize dP l x.x=A at*;generalize dP l x.y=B at*;generalize mN l x=R at*;generalize x.x.v=X at*;generalize x.y.v=Y at*;obtain⟨H,hH⟩:∃H,h.set nx (.arr (.agg 17) [.agg T])=H:=⟨_,rfl⟩;have hHn:H n=some (.mp es c):=by rw[←hH];simp only[Kb];rw[if_neg or];exact hm
 have D1:=UX H hHn;have D2:=UY H hHn;have TT:=TT H hHn;rw[←hH] at D1 D2 TT;generalize hDC:aT.draw _ _ _=DC;refine aue hf ?_;rw[←hDC];refine lH rfl ?_;have zA:=vT A;have zB:=vT B;refine aue (e3 hf hlx hXf) ?_;refine bR D1 rfl (aI _) ?_;refine aue (e3 hf hly hYf) ?_;refine bR D2 rfl (aI _) ?_;have hvR:=dK R.2;by_cases o1:x.op=1
 ·have g1:(x.op==1)=true:=bqt;by_cases hA:A.size=0
  ·rw[decide_eq_true hA] at zA;rw[if_neg (fun e=>e.2 hA)];by_cases hB:B.size=0
   ·rw[decide_eq_true hB] at zB;rw[if_neg (fun e=>e.2 hB)];refine aue (e5 hf hto g1 zA zB) ?_;refine aH TT rfl (aI _) ?_;by_cases hR2:R.2=0
    ·rw[decide_eq_true hR2] at hvR;cases hR1:R.1 with
     |true=>
      rw[if_neg (by simp[hR2])];refine aue (e2 hvR hR1) ?_;refine aV ((oD n es c l he _ _ ?_).dom.mono ?_)
      ·simp only[hm,hn2,go_sem,reduceIte,jA,jB,jC,jD,reduceCtorEq,jE,jF]
      rintro v h2 nx2 hle ⟨⟨n2,es2,c2,rfl,q1,q2,q3,q4,q5⟩,hd2,_⟩;unfold bW;dsimp only at q1 q5;refine Zn ?_;refine au ?_;refine bE _ (Ka _) ⟨⟨n2,es2,c2,rfl,or,Zw,q3,q4⟩,fun k hk=>?_⟩;refine(q5 k or).trans ?_;simp only[Kb];rw[if_neg or]
     |false=>
      rw[if_pos (.inr rfl)];refine aue (e2 hvR hR1) ?_;refine bE _ (Ka _) ⟨rfl,fun k hk=>?_⟩;simp only[Kb];rw[if_neg or]
    rw[decide_eq_false hR2] at hvR;rw[if_pos (.inl hR2)];refine aue hvR ?_;refine bE _ (Ka _) ⟨rfl,fun k hk=>?_⟩;simp only[Kb];rw[if_neg or]
   rw[decide_eq_false hB] at zB;rw[if_pos ⟨o1,hB⟩];refine aue (e7 hf hto g1 zA zB hlx hXf) ?_;refine aV ((SY hB _ _ ?_).dom.mono ?_)
   ·simp only[hm,hn2,go_sem,reduceIte,jA,jB,jC,jD,reduceCtorEq,jE,jF]
   rintro v h2 nx2 hle ⟨⟨q,hk⟩,hd2,_⟩;unfold bW;dsimp only at q hk;have hk2:∀k,k<nx→h2 k=h k:=fun k hkn=>by
    rw[hk k or];simp only[Kb];rw[if_neg or]
   obtain⟨⟨r,e⟩,hr⟩:∃r,tZ l B x.x=r:=⟨_,rfl⟩;rw[hr] at q⊢;cases r with
   |none=>
    have q:v= .tup [.aAG, .bool false,dC e]:=q;subst q;refine Zn ?_;refine au ?_;exact bE _ (Ka _) ⟨rfl,hk2⟩
   |some l2=>
    obtain⟨n2,es2,c2,q1,q2,q3,q4,q5⟩:=q;subst q1;refine Zn ?_;refine au ?_;exact bE _ (Ka _) ⟨⟨n2,es2,c2,rfl,or,Zw,q4,q5⟩,hk2⟩
  rw[decide_eq_false hA] at zA;rw[if_pos ⟨o1,hA⟩];refine aue (e6 hf hto g1 zA hly hYf) ?_;refine aV ((SX hA _ _ ?_).dom.mono ?_)
  ·simp only[hm,hn2,go_sem,reduceIte,jA,jB,jC,jD,reduceCtorEq,jE,jF]
  rintro v h2 nx2 hle ⟨⟨q,hk⟩,hd2,_⟩;unfold bW;dsimp only at q hk;have hk2:∀k,k<nx→h2 k=h k:=fun k hkn=>by
   rw[hk k or];simp only[Kb];rw[if_neg or]
  obtain⟨⟨r,e⟩,hr⟩:∃r,tZ l A x.y=r:=⟨_,rfl⟩;rw[hr] at q⊢;cases r with
  |none=>
   have q:v= .tup [.aAG, .bool false,dC e]:=q;subst q;refine Zn ?_;refine au ?_;exact bE _ (Ka _) ⟨rfl,hk2⟩
  |some l2=>
   obtain⟨n2,es2,c2,q1,q2,q3,q4,q5⟩:=q;subst q1;refine Zn ?_;refine au ?_;exact bE _ (Ka _) ⟨⟨n2,es2,c2,rfl,or,Zw,q4,q5⟩,hk2⟩
 have g1:(x.op==1)=false:=bqf;rw[if_neg (fun e=>o1 e.1),if_neg (fun e=>o1 e.1)];refine aue (e3 hf hto g1) ?_;refine aH TT rfl (aI _) ?_;by_cases hR2:R.2=0
 ·rw[decide_eq_true hR2] at hvR;cases hR1:R.1 with
  |true=>
   rw[if_neg (by simp[hR2])];refine aue (e2 hvR hR1) ?_;refine aV ((oD n es c l he _ _ ?_).dom.mono ?_)
   ·simp only[hm,hn2,go_sem,reduceIte,jA,jB,jC,jD,reduceCtorEq,jE,jF]
   rintro v h2 nx2 hle ⟨⟨n2,es2,c2,rfl,q1,q2,q3,q4,q5⟩,hd2,_⟩;unfold bW;dsimp only at q1 q5;refine Zn ?_;refine au ?_;refine bE _ (Ka _) ⟨⟨n2,es2,c2,rfl,or,Zw,q3,q4⟩,fun k hk=>?_⟩;refine(q5 k or).trans ?_;simp only[Kb];rw[if_neg or]
  |false=>
   rw[if_pos (.inr rfl)];refine aue (e2 hvR hR1) ?_;refine bE _ (Ka _) ⟨rfl,fun k hk=>?_⟩;simp only[Kb];rw[if_neg or]
 rw[decide_eq_false hR2] at hvR;rw[if_pos (.inl hR2)];refine aue hvR ?_;refine bE _ (Ka _) ⟨rfl,fun k hk=>?_⟩;simp only[Kb];rw[if_neg or]
end Go.Proofs.YtlhedpgobaellaaGreatDoor
