/-
Texts of this proof,one behind the other. No conditions.
-/
import Derived.Test.YtgbiopfghdilnaaGreatDoorKa
import Derived.MapKept
import Derived.WideKeyRuns
open Option renaming bind_eq_some_iff→Ka,map_eq_some_iff→Kb,map_some→Km,isSome_none→Kp,map_none→Kq,isSome_some→KJ,bind_some→KN,map→Ql
open Go.Result renaming andThen_ok→Kc
open Go.Sem renaming run_bind→Kd,run_pure→Ke,run_ite→Qd
open List renaming getD_eq_getElem?_getD→Kf,getElem?_append_right→Ky,getElem?_append_left→KK,getElem?_eq_getElem→KM,mem_of_mem_take→KR,mem_of_mem_drop→KS,getElem?_take→KW,getElem?_drop→KX,append_assoc→KY,range→Qk
open Array renaming getD_eq_getD_getElem?→Kg,ext'→KI,getElem?_eq_getElem→KL,getElem?_eq_none→KP,toList_zipIdx→KU,foldl_toList→KV
open Go.Instr renaming sliceBounds→Kh,checkKey→Ko,sliceBound→Ku,lookup→Kv,sureAddr→Kx,findAsking→Kz,typeAssert→KA,sameNow→KE,findNow→KF,indexAt→KG,sliceAt→KO,findKey→KZ,fieldAt→Qa,slice→Qe,index→Qf,fill→Qg
open Nat renaming add_assoc→Ki,mul_le_mul_right→Ks,add_mul→Kw,le_refl→KB,add_zero→KH,add_comm→Qh,lt_or_ge→Qi,mul_one→Qj
open Bool renaming false_eq_true→Kj,and_eq_true→Kt
open Go renaming undef→Kk
open Int renaming le_refl→KC,toNat_zero→Qc
open Go.Builtin renaming len_→KD,cap_→Qb
open Go.World renaming shape?→KQ
set_option linter.unusedSimpArgs false
set_option linter.unusedVariables false
set_option linter.unusedSectionVars false
set_option maxHeartbeats 8000000
namespace Go.Proofs.YtgbiopfghdilnaaGreatDoor
open Go.RowKit
def oO:Operand→Bool
 | .const _=>true
 |_=>false
def rj(P:Program)(t:TypeId)(x y:Operand):Option mS:=
 match P.underlying t with
 |some .bool=>(aY P 1 t).bind fun ks=>(bV P t).map fun k=> .plain k ks
 |some (.pointer _)=>some .ptr
 |some (.slice _)=>some .slice
 |some (.func _ _ _)=>some .func
 |some (.interface _)=>some (.iface (oO x||oO y))
 |some (.map _ _)=>some .map
 |some (.chan _ _)=>some .chan
 |some (.struct _)=>if P.eqGuardType P.depth t then none else (aY P 10 t).bind fun ks=>(bV P t).map fun k=> .plain k ks
 |_=>none
def tx:BinOp→Option Bool
 | .eql=>some false
 | .neq=>some true
 |_=>none
def yK(P:Program)(op:BinOp)(t yt:TypeId)(x y:Operand):Option aR:=
 (aL P t x).bind fun lx=>(aL P t y).bind fun ly=>
   match P.underlying t with
   |some (.int _)=>if op= .shl∨op= .shr then none else some (.bin op lx ly)
   |some .string=>some (.bin op lx ly)
   |_=>(tx op).bind fun ng=>(rj P t x y).map fun e=> .eq ng e lx ly
def dH(P:Program):List TypeId→List Operand→Option (List aI)
 |_,[]=>some []
 |ts,x::xs=>match aL P (ts.headD 0) x,dH P ts.tail xs with
  |some a,some as=>some (a::as)
  |_,_=>none
def kN(P:Program)(fs:Array Field):List (Nat×Operand)→Option (List (Nat×Sh×aI))
 | []=>some []
 |(i,x)::r=>match fs[i]? with
  |some f=>(bV P f.type).bind fun k=>(aL P f.type x).bind fun l=>(kN P fs r).map ((f.offset,k,l):: ·)
  |none=>none
def dX(P:Program):Option Operand→Option (Option aI)
 |none=>some none
 |some x=>(aL P 0 x).map some
def sB(P:Program)(o:Oper):Option aR:=
 match o.op with
 | .move x=>(aL P o.type x).map .move
 | .assign x=>(aL P o.type x).map .move
 | .pick c a b=>(aL P 0 c).bind fun c=>(aL P o.type a).bind fun a=>(aL P o.type b).map fun b=> .pick c a b
 | .load t x=>(bV P t).bind fun k=>(aL P 0 x).map fun x=> .load k x
 | .nilCheck x=>(aL P 0 x).map .nilCheck
 | .binOp op t x y yt=>yK P op t yt x y
 | .unOp .not _ x=>(aL P 0 x).map .not
 | .unOp .neg _ x=>(aL P 0 x).map .neg
 | .convert s d x=>match P.underlying s,P.underlying d with
  |some (.int _),some (.int k)=>(aL P 0 x).map (.conv k)
  |_,_=>none
 | .makeInterface t x=>match P.underlying t with
  |some (.interface _)=>none
  |some _=>(aL P t x).map (.mkif t)
  |none=>none
 | .makeFunc f first cap=>(dH P [] first.toList).bind fun a=>(dH P [] cap.toList).map fun b=> .mkfn f a b
 | .fieldAddr s x f=>match P.underlying s with
  |some (.struct fs)=>match fs[f]? with
   |some fl=>if P.cellsOf fl.type=0 then none else (aL P 0 x).map (.fldA fl.offset)
   |none=>none
  |_=>none
 | .field s x f=>match P.underlying s with
  |some (.struct fs)=>match fs[f]? with
   |some fl=>(bV P fl.type).bind fun k=>(aL P s x).map (.fld k fl.offset)
   |none=>none
  |_=>none
 | .indexAddr t x i=>match P.underlying t with
  |some (.slice e)=>(bV P e).bind fun k=>(aL P t x).bind fun x=>(aL P 0 i).map fun i=> .idxA k x i
  |some (.array n e)=>(bV P e).bind fun k=>(aL P t x).bind fun x=>(aL P 0 i).map fun i=> .idxP n k x i
  |_=>none
 | .extract x i=>(aL P 0 x).map fun x=> .ext x i
 | .slice t x lo hi mx=>match P.underlying t with
  |some (.slice e)=>(bV P e).bind fun k=>(aL P t x).bind fun x=>(dX P lo).bind fun lo=>(dX P hi).bind fun hi=>(dX P mx).map fun mx=> .slc k x lo hi mx
  |some .string=>if mx.isSome then none else (aL P t x).bind fun x=>(dX P lo).bind fun lo=>(dX P hi).map fun hi=> .slcs x lo hi
  |some (.array n e)=>if (mx.isSome||lo.isSome)=true then none else (bV P e).bind fun k=>(aL P t x).bind fun x=>(dX P hi).map fun hi=> .pslc n k x hi
  |_=>none
 | .call {callee:= .builtin .len,args:=args,argTypes:=ts}=>match args.toList,ts.toList with
  | [x],[t]=>match P.underlying t with
   |some (.slice _)=>(aL P t x).map .len
   |some .string=>(aL P t x).map .slen
   |some (.map _ _)=>(aL P t x).map .mlen
   |_=>none
  |_,_=>none
 | .build t parts=>match P.underlying t,(P.info? t).bind (·.zero) with
  |some (.struct fs),some z=>match wH P t z with
   |some (.agg zs)=>if (zs.all V.aAE&&fs.toList.all (fun f=>(bV P f.type).isSome))=true then (kN P fs parts.toList).map (.build zs) else none
   |_=>none
  |_,_=>none
 | .panic _=>some .never
 | .call {callee:= .builtin .cap,args:=args,argTypes:=ts}=>match args.toList,ts.toList with
  | [x],[t]=>match P.underlying t with
   |some (.slice _)=>(aL P t x).map .capv
   |_=>none
  |_,_=>none
 | .call {callee:= .builtin .min,args:=args,argTypes:=ts}=>match args.toList with
  | [x,y]=>(aL P (ts.toList.headD 0) x).bind fun x=>(aL P (ts.toList.headD 0) y).map fun y=> .mnx false x y
  |_=>none
 | .call {callee:= .builtin .max,args:=args,argTypes:=ts}=>match args.toList with
  | [x,y]=>(aL P (ts.toList.headD 0) x).bind fun x=>(aL P (ts.toList.headD 0) y).map fun y=> .mnx true x y
  |_=>none
 | .typeAssert x _ t true=>match P.underlying t,(P.info? t).bind (·.zero) with
  |some (.interface _),_=>none
  |some _,some z=>(wH P t z).bind fun z=>(aL P 0 x).map fun x=> .asrt t z x
  |_,_=>none
 | .typeAssert x _ t false=>match P.underlying t with
  |some (.interface _)=>none
  |some _=>(aL P 0 x).map fun x=> .asrq t x
  |_=>none
 | .lookup t x i ok=>match P.underlying t with
  |some (.map kt et)=>(bV P kt).bind fun kS=>(aY P 10 kt).bind fun ks=>((P.info? et).bind (·.zero)).bind fun z=>(wH P et z).bind fun zv=>(aL P t x).bind fun x=>(aL P kt i).map fun i=> .mget kS ks zv ok x i
  |_=>none
 | .index t x i=>match P.underlying t with
  |some .string=>(aL P t x).bind fun x=>(aL P 0 i).map fun i=> .sidx none x i
  |some (.array n e)=>match bV P e with
   |some .leaf=>(aL P t x).bind fun x=>(aL P 0 i).map fun i=> .sidx (some n) x i
   |_=>none
  |_=>none
 |_=>none
theorem eL{P:Program}{K:Ker}{sl:List V}{a:Act}(hs:SlV K sl a):∀(xs:List Operand) (ts:List TypeId) (ls:List aI),dH P ts xs=some ls→
 ls.length=xs.length∧∀i,i<ls.length→VR K ((ls.map (aI.ev sl)).getD i V.undef) ((xs.map a.eval).getD i Kk)
 | [],ts,ls,h=>by simp[dH] at h;subst h;exact⟨rfl,fun i hi=>absurd hi Zm⟩
 |x::xs,ts,ls,h=>by
  unfold dH at h;split at h
  ·rename_i l r h1 h2;injection h with h;subst h;obtain⟨e1,e2⟩:=eL hs xs _ r h2;refine⟨by simp[e1],fun i hi=>?_⟩;cases i with
   |zero=>simpa using aE h1 hs
   |succ i=>simpa using e2 i (by simpa using hi)
  simp at h
theorem mq{α:Type}{c:Prop} [Decidable c]{x r:α}(h:x=r):(if c then r else x)=r:=by split<;>first|rfl|exact h
theorem eS{P:Program}(op:BinOp)(t:TypeId)(x y:Operand)(a b:Value)(w:World)(h1:¬(a= .nilIface∧b= .nilIface))(h2:∀xs ys,¬(a= .agg xs∧b= .agg ys)):(eqGuard op t x y a b).run P w= .ok () w:=by
 unfold eqGuard;simp only[Qd,Ke];refine mq ?_;split
 ·exact absurd ⟨rfl,rfl⟩ h1
 ·exact absurd ⟨rfl,rfl⟩ (h2 _ _)
 rfl
theorem rR{P:Program}(op:BinOp)(t:TypeId)(x y:Operand)(w:World)(h:(oO x||oO y)=true):(eqGuard op t x y .nilIface .nilIface).run P w= .ok () w:=by
 unfold eqGuard;simp only[Qd,Ke];refine mq ?_;rw[if_pos];cases x<;>cases y<;>simp_all [oO]
theorem gr{P:Program}{op:BinOp}{ng:Bool}(hn:tx op=some ng)(t:TypeId)(x y:Operand)(a b:Value)(w:World)(r:Bool)(hg:(eqGuard op t x y a b).run P w= .ok () w)(hi:∀k n k' n',¬(a= .int k n∧b= .int k' n'))(hs:∀s s',¬(a= .string s∧b= .string s'))(hnf:∀k n k' n',¬(a= .float k n∧b= .float k' n'))(hnc:∀k n m k' n' m',¬(a= .complex k n m∧b= .complex k' n' m'))
 (he:(Op.equal t a b).run P w= .ok r w):(do eqGuard op t x y a b;binOp op t a b:Sem Value).run P w= .ok (.bool (if ng then !r else r)) w:=by
 simp only[Kd,hg,Kc];cases op<;>simp[tx] at hn
 all_goals
  subst hn;unfold binOp
  split<;>first
   |(simp only[Kd,he,Kc,Ke];rfl)
   |(exfalso;rename_i h;exact BinOp.noConfusion h)
   |(exfalso;first|exact hi _ _ _ _ ⟨rfl,rfl⟩|exact hs _ _ ⟨rfl,rfl⟩|exact hnf _ _ _ _ ⟨rfl,rfl⟩|exact hnc _ _ _ _ _ _ ⟨rfl,rfl⟩)
   |(exfalso;simp_all;done)
theorem jZ{K:Ker}{k:Sh}{v:V}{cv:Value}(r:VR K v cv)(hk:v.fits k=true):cv=aAX k fun j=>cv.cells.getD j Kk:=by
 cases k with
 |leaf=>
  simp only[V.fits] at hk;cases r<;>first|rfl|(simp[V.aAE] at hk)
 |agg n=>
  cases r with
  |agg cs ccs hl hv=>
   simp only[V.fits,Kt,decide_eq_true_eq] at hk;simp only[aAX];congr 1;apply Array.ext
   ·simp;omega
   intro i h1 h2;simp[Value.cells,h1]
  |_=>simp[V.fits] at hk
theorem sH{P:Program}:∀(d:Nat) (t:TypeId) (ks:List LK),aY P d t=some ks→aY P (d+1) t=some ks
 |0,t,ks,h=>by simp[aY] at h
 |d+1,t,ks,h=>by
  unfold aY at h⊢;split at h
  ·exact h
  ·exact h
  ·exact h
  ·rename_i fs hu;split at h
   ·simp at h
   rename_i hst;simp only[if_neg hst];obtain⟨k0,h1,h2⟩:=Ka.1 h;have key:∀(l:List Field) (off:Nat) (kl:List LK),eJ (aY P d) l off=some kl→eJ (aY P (d+1)) l off=some kl:=by
    intro l;induction l with
    |nil=>intro off kl h;exact h
    |cons f l ih=>
     intro off kl h;unfold eJ at h⊢;split at h
     ·rename_i hf;rw[if_pos hf];obtain⟨kf,e1,e2⟩:=Ka.1 h;rw[sH d _ _ e1];cases hkr:eJ (aY P d) l (off+kf.length) with
      |none=>simp[hkr] at e2
      |some kr=>
       simp only[hkr,Km] at e2;simp only[KN,ih _ _ hkr,Km];exact e2
     simp at h
   rw[key _ _ _ h1];exact h2
  simp at h
theorem qt{P:Program}{d d':Nat}{t:TypeId}{ks:List LK}(h:aY P d t=some ks)(hd:d≤d'):aY P d' t=some ks:=by
 induction d' with
 |zero=>have:d=0:=or
        subst this;exact h
 |succ n ih=>
  by_cases e:d=n+1
  ·subst e;exact h
  exact sH n t ks (ih or)
theorem nF{P:Program}{K:Ker}(w:World){t:TypeId}{d:Nat}{ks:List LK}{k:Sh}(hks:aY P d t=some ks)(hk:bV P t=some k)(hd:d≤10000){v u:V}{a b:Value}(hv:VR K v a)(hu:VR K u b)
 (fv:v.fits k=true) (fu:u.fits k=true) {r:Bool} (h:fL ks v.cells u.cells=some r):(Op.equal t a b).run P w= .ok r w:=by
 obtain⟨hsz,heq⟩:=nb (K:=K) w 10000 t ks k (qt hks hd) hk;rw[jZ hv fv,jZ hu fu];exact heq v.cells u.cells _ _ r (fun j hj=>(hv.cells fv).2.2.1 j or) (fun j hj=>(hu.cells fu).2.2.1 j or) h
set_option maxHeartbeats 1000000 in
theorem uo{P:Program}{K:Ker}{t:TypeId}{x y:Operand}{e:mS}(he:rj P t x y=some e){v u:V}{a b:Value}(hv:VR K v a)(hu:VR K u b){r:Bool}(h:veq e v u=some r){op:BinOp}{ng:Bool}(hn:tx op=some ng):
 (do eqGuard op t x y a b;binOp op t a b:Sem Value).run P K.w= .ok (.bool (if ng then !r else r)) K.w:=by
 unfold rj at he;split at he;case h_1 hu1=>
  obtain⟨ks,e1,e2⟩:=Ka.1 he;obtain⟨k,e3,e4⟩:=Kb.1 e2;subst e4;simp only[veq] at h;split at h
  ·rename_i hf;simp only[Kt] at hf;have hq:=nF K.w e1 e3 or hv hu hf.1 hf.2 h;obtain⟨i,d,hi,hd,hs,hkk⟩:=eO e3;have hkl:k= .leaf:=by
    rcases hkk with⟨h1,_⟩|⟨_,⟨fs,rfl⟩|⟨n,ee,rfl⟩⟩
    ·exact h1
    ·rw[hd] at hu1;injection hu1 with q;cases q
    rw[hd] at hu1;injection hu1 with q;cases q
   subst hkl;have hks:ks=[.bool]:=by
    simp only[aY,hu1] at e1;split at e1
    ·injection e1 with e1;exact e1.symm
    rename_i hne;exact absurd e3 hne
   subst hks;have hvb:(∃p,v= .bool p)∧∃p,u= .bool p:=by
    have l1:=mE _ _ _ _ h;cases v<;>cases u<;>simp[V.cells,fL,fN,V.fits,V.aAE] at h hf<;>exact⟨⟨_,rfl⟩,_,rfl⟩
   obtain⟨⟨p,rfl⟩,q,rfl⟩:=hvb;cases hv;cases hu;exact gr hn t x y _ _ K.w r (eS _ _ _ _ _ _ _ Zm Zm) Zm Zm Zm Zm hq
  simp at h
 case h_8 fs hu1=>
  split at he
  ·simp at he
  rename_i hgt;obtain⟨ks,e1,e2⟩:=Ka.1 he;obtain⟨k,e3,e4⟩:=Kb.1 e2;subst e4;simp only[veq] at h;split at h
  ·rename_i hf;simp only[Kt] at hf;have hq:=nF K.w e1 e3 or hv hu hf.1 hf.2 h;obtain⟨i,d,hi,hd,hs,hkk⟩:=eO e3;have hkl:∃n,k= .agg n:=by
    rcases hkk with⟨_,h1,_⟩|⟨h1,_⟩
    ·rw[hd] at hu1;injection hu1 with q;exact absurd q (h1 _)
    exact⟨_,h1⟩
   obtain⟨n,rfl⟩:=hkl;have ha:∃cs,a= .agg cs:=by cases hv<;>simp[V.fits] at hf<;>exact⟨_,rfl⟩
   have hb:∃cs,b= .agg cs:=by cases hu<;>simp[V.fits] at hf<;>exact⟨_,rfl⟩
   obtain⟨ca,rfl⟩:=ha;obtain⟨cb,rfl⟩:=hb;exact gr hn t x y _ _ K.w r (run_eqGuard_agg K.w _ _ _ _ _ _ (by simpa using hgt)) Zm Zm Zm Zm hq
  simp at h
 all_goals first
  |(simp at he;done)
  |(injection he with he
    rename_i hu1;revert hv hu;unfold veq at h;split at h
    all_goals first
     |(simp at h;done)
     |(cases he;done)
     |(try (injection he with he))
    all_goals
     intro hv hu;simp only[Option.some.injEq] at h;subst h;cases hv<;>cases hu<;>first
     |(exfalso;exact absurd rfl (by assumption:Own.nil≠Own.nil))
     |(refine gr hn t x y _ _ K.w _ ?_ Zm Zm Zm Zm ?_
       ·first
         |(refine rR _ _ _ _ _ ?_;assumption)
         |(refine eS _ _ _ _ _ _ _ ?_ ?_<;>simp)
       show Sem.run P (Op.equalIn (9999+1) t _ _) K.w=_;rw[Op.equalIn]
       first
        |(simp[run_underlying hu1];done)
        |(simp[run_underlying hu1];assumption)))
theorem av{P:Program}{d:Nat}{t:TypeId}{ks:List LK}(h:aY P d t=some ks):∃k,bV P t=some k:=by
 cases d with
 |zero=>simp[aY] at h
 |succ d=>
  unfold aY at h;split at h
  ·split at h
   ·exact⟨_,by assumption⟩
   simp at h
  ·split at h
   ·exact⟨_,by assumption⟩
   simp at h
  ·split at h
   ·exact⟨_,by assumption⟩
   simp at h
  ·split at h
   ·simp at h
   obtain⟨a,_,hb⟩:=Ka.1 h;split at hb
   ·exact⟨_,by assumption⟩
   simp at hb
  simp at h
theorem bW{P:Program}{w:World}{r:Nat}{es:Array MapEntry}{c:Nat}(hb:w.heap[r]?=some (.map es c)):(getObj r).run P w= .ok (.map es c) w:=by simp[getObj,Sem.run,hb]
theorem kD{P:Program}(w:World)(em:Bool):∀(d:Nat) (t:TypeId) (ks:List LK) (k:Sh),aY P d t=some ks→bV P t=some k→k.size=ks.length∧
 ∀(m:Nat) (cx:Nat→Value),d≤m→(Ko em m t (aAX k cx)).run P w= .ok () w
 |0,t,ks,k,h,_=>by simp[aY] at h
 |d+1,t,ks,k,h,hk=>by
  have aAg:∀(lk:LK) (dd:TypeDesc),P.underlying t=some dd→bV P t=some .leaf→ks=[lk]→(dd= .bool∨(∃kk,dd= .int kk)∨dd= .string)→k.size=ks.length∧
   ∀(m:Nat) (cx:Nat→Value),d+1≤m→(Ko em m t (aAX k cx)).run P w= .ok () w:=by
   intro lk dd hu hs hks hdd;rw[hk] at hs;injection hs with hs;subst hs hks;refine⟨rfl,fun m cx hm=>?_⟩;obtain⟨m,rfl⟩:∃m',m=m'+1:=⟨m-1,or⟩;rcases hdd with rfl|⟨kk,rfl⟩|rfl<;>simp[Ko,run_underlying hu]
  unfold aY at h;split at h
  ·rename_i hu;split at h
   ·rename_i hs;injection h with h;exact aAg .bool _ hu hs h.symm (.inl rfl)
   simp at h
  ·rename_i kk hu;split at h
   ·rename_i hs;injection h with h;exact aAg .int _ hu hs h.symm (.inr (.inl ⟨kk,rfl⟩))
   simp at h
  ·rename_i hu;split at h
   ·rename_i hs;injection h with h;exact aAg .str _ hu hs h.symm (.inr (.inr rfl))
   simp at h
  ·rename_i fs hu;split at h
   ·simp at h
   cases hks:eJ (aY P d) fs.toList 0 with
   |none=>simp[hks] at h
   |some ks0=>
    simp only[hks,KN] at h;split at h
    ·rename_i hsh;injection h with h;subst h;rw[hk] at hsh;injection hsh with hsh;subst hsh;refine⟨rfl,fun m cx hm=>?_⟩;obtain⟨m,rfl⟩:∃m',m=m'+1:=⟨m-1,or⟩;simp only[aAX,Ko,Kd,run_underlying hu,Kc];rw[←Array.forIn_toList]
     have key:∀(l:List Field) (off:Nat) (kl:List LK),eJ (aY P d) l off=some kl→off+kl.length≤ks0.length→
      (forIn l PUnit.unit (fun f (_:PUnit)=>do
        if f.name≠ "_" then Ko em m f.type (←part f.type ((Qk ks0.length).map cx).toArray f.offset)
        pure (ForInStep.yield PUnit.unit)):Sem PUnit).run P w= .ok PUnit.unit w:=by
      intro l;induction l with
      |nil=>intro off kl _ _;simp
      |cons f l ih=>
       intro off kl hkl hle;unfold eJ at hkl;split at hkl
       ·rename_i hf;obtain⟨hnm,aMn⟩:=hf;cases hkf:aY P d f.type with
        |none=>simp[hkf] at hkl
        |some kf=>
         simp only[hkf,KN] at hkl;cases hkr:eJ (aY P d) l (off+kf.length) with
         |none=>simp[hkr] at hkl
         |some kr=>
          simp only[hkr,Km] at hkl;injection hkl with hkl;subst hkl;simp only[List.length_append] at hle;obtain⟨kk,hkk⟩:=av hkf;obtain⟨hsz,hch⟩:=kD w em d f.type kf kk hkf hkk;have hp:=nZ hkk w ((Qk ks0.length).map cx).toArray cx f.offset (by simp;omega) (fun j hj=>by
           have hj':j<ks0.length:=by simpa using hj
           simp[hj'])
          have hc:=hch m (fun j=>cx (f.offset+j)) or;simp only[List.forIn_cons,Kd,hnm,ne_eq,not_false_eq_true,if_true,Kc,hp,hc,Ke];exact ih _ _ hkr or
       simp at hkl
     have:=key fs.toList 0 ks0 hks or;simp at this⊢;simp[this]
    simp at h
  simp at h
theorem fS{P:Program}{K:Ker}(w:World)(em:Bool){t:TypeId}{d:Nat}{ks:List LK}{k:Sh}(hks:aY P d t=some ks)(hk:bV P t=some k)(hd:d≤10000){v:V}{cv:Value}(hv:VR K v cv)(hf:v.fits k=true):
 (Ko em 10000 t cv).run P w= .ok () w:=by
 rw[jZ hv hf];exact(kD w em d t ks k hks hk).2 10000 _ hd
def MEs(K:Ker)(es:List ME)(ces:List MapEntry):Prop:=es.length=ces.length∧
 ∀i,i<es.length→VR K (es.getD i default).k (ces.getD i default).key∧VR K (es.getD i default).v (ces.getD i default).val∧(ces.getD i default).born=(es.getD i default).b
theorem MEs.tail{K:Ker}{e:ME}{es:List ME}{c:MapEntry}{ces:List MapEntry}(h:MEs K (e::es) (c::ces)):MEs K es ces:=
 ⟨by simpa using h.1,fun i hi=>by simpa using h.2 (i+1) (by simpa using hi)⟩
theorem MEs.head{K:Ker}{e:ME}{es:List ME}{c:MapEntry}{ces:List MapEntry}(h:MEs K (e::es) (c::ces)):VR K e.k c.key∧VR K e.v c.val∧c.born=e.b:=by simpa using h.2 0 Zm
section
variable{P:Program}{K:Ker}(w:World){t:TypeId}{d:Nat}{ks:List LK}{k:Sh}
theorem c7(hks:aY P d t=some ks)(hk:bV P t=some k)(hd:d≤10000){v u:V}{a b:Value}(hv:VR K v a)(hu:VR K u b){r:Bool}(h:veq (.plain k ks) v u=some r):(Op.equal t a b).run P w= .ok r w:=by
 simp only[veq] at h;split at h
 ·rename_i hf;simp only[Kt] at hf;exact nF w hks hk hd hv hu hf.1 hf.2 h
 simp at h
theorem oC(hks:aY P d t=some ks)(hk:bV P t=some k)(hd:d≤10000){v:V}{cv:Value}(hv:VR K v cv):∀(es:List ME) (ces:List MapEntry) (i:Nat) (r:Option Nat),MEs K es ces→bO (.plain k ks) v es=some r→
 (Kz t cv ces i).run P w= .ok (r.map fun j=>(i+j,(ces.getD j default).val)) w
 | [],ces,i,r,hm,h=>by
  have:ces=[]:=by have:=hm.1;cases ces with
   |nil=>rfl
   |cons=>simp at this
  subst this;simp only[bO,Option.some.injEq] at h;subst h;simp[Kz]
 |e::es,[],i,r,hm,h=>by have:=hm.1;simp at this
 |e::es,c::ces,i,r,hm,h=>by
  simp only[bO] at h;split at h
  ·rename_i he;injection h with h;subst h;simp[Kz,c7 w hks hk hd hv hm.head.1 he]
  ·rename_i he;obtain⟨q,hq,rfl⟩:=Kb.1 h;have:=oC hks hk hd hv es ces (i+1) q hm.tail hq;simp only[Kz,Kd,c7 w hks hk hd hv hm.head.1 he,Kc,Kj,if_false,this];cases q with
   |none=>rfl
   |some j=>simp[Ki,Qh 1 j]
  simp at h
theorem uW(s s':ByteArray):(s==s')=(s.toList==s'.toList):=by
 have h1:(s==s')=(s.data==s'.data):=by cases s;cases s';rfl
 rw[h1,Bool.eq_iff_iff,beq_iff_eq,beq_iff_eq];constructor
 ·intro h;rw[show s=s' from by cases s;cases s';simp_all]
 intro e;simpa [ByteArray.toList_eq] using e
theorem j6{dd:TypeDesc}{a b:Value}{q:Bool}(h:KE dd a b=some q):(∃kk k n m,dd= .int kk∧a= .int k n∧b= .int k m∧q=(n==m))∨
 (∃s s',dd= .string∧a= .string s∧b= .string s'∧q=(s==s'))∨∃x y,dd= .bool∧a= .bool x∧b= .bool y∧q=(x==y):=by
 unfold KE at h;split at h
 ·split at h
  ·rename_i e;subst e;injection h with h;exact .inl ⟨_,_,_,_,rfl,rfl,rfl,h.symm⟩
  cases h
 ·injection h with h;exact .inr (.inl ⟨_,_,rfl,rfl,rfl,h.symm⟩)
 ·injection h with h;exact .inr (.inr ⟨_,_,rfl,rfl,rfl,h.symm⟩)
 cases h
theorem vF(hks:aY P d t=some ks)(hk:bV P t=some k){dd:TypeDesc}(hdd:P.underlying t=some dd){v u:V}{a b:Value}(hv:VR K v a)(hu:VR K u b){r q:Bool}(h:veq (.plain k ks) v u=some r)(hq:KE dd a b=some q):q=r:=by
 cases d with
 |zero=>simp[aY] at hks
 |succ d=>
 simp only[veq] at h;split at h
 ·rename_i hf;simp only[Kt] at hf;unfold aY at hks;rw[hdd] at hks;rcases j6 hq with⟨kk,k',n,m,rfl,rfl,rfl,rfl⟩|⟨s,s',rfl,rfl,rfl,rfl⟩|⟨x,y,rfl,rfl,rfl,rfl⟩
  all_goals
   simp only at hks;split at hks
   ·rename_i hs;rw[hk] at hs;injection hs with hs;subst hs;injection hks with hks;subst hks
    cases hv<;>cases hu<;>first
     |(simp only[V.cells,fL,fN,if_true,Option.some.injEq] at h;first|exact h|(rw[uW];exact h))
     |(exfalso;simp[V.fits,V.aAE] at hf)
   simp at hks
 simp at h
theorem zH(hks:aY P d t=some ks)(hk:bV P t=some k){dd:TypeDesc}(hdd:P.underlying t=some dd){v:V}{cv:Value}(hv:VR K v cv):∀(es:List ME) (ces:List MapEntry) (i:Nat) (r:Option Nat) (q:Option (Nat×Value)),MEs K es ces→bO (.plain k ks) v es=some r→
 KF dd cv ces i=some q→q=r.map fun j=>(i+j,(ces.getD j default).val)
 | [],ces,i,r,q,hm,h,hq=>by
  have:ces=[]:=by have:=hm.1;cases ces with
   |nil=>rfl
   |cons=>simp at this
  subst this;simp only[bO,Option.some.injEq] at h;subst h;simp only[KF,Option.some.injEq] at hq;subst hq;rfl
 |e::es,[],i,r,q,hm,h,hq=>by have:=hm.1;simp at this
 |e::es,c::ces,i,r,q,hm,h,hq=>by
  simp only[bO] at h;simp only[KF] at hq;cases hs:KE dd cv c.key with
  |none=>simp[hs] at hq
  |some b=>
   rw[hs] at hq;split at h
   ·rename_i he;have:=vF hks hk hdd hv hm.head.1 he hs;subst this;injection h with h;subst h;simp only[Option.some.injEq] at hq;subst hq;simp
   ·rename_i he;have:=vF hks hk hdd hv hm.head.1 he hs;subst this;obtain⟨q',hq',rfl⟩:=Kb.1 h;have:=zH hks hk hdd hv es ces (i+1) q' q hm.tail hq' hq;rw[this];cases q' with
    |none=>rfl
    |some j=>simp[Ki,Qh 1 j]
   simp at h
theorem cP(hks:aY P d t=some ks)(hk:bV P t=some k)(hd:d≤10000){v:V}{cv:Value}(hv:VR K v cv){es:List ME}{ces:List MapEntry}{r:Option Nat}(hm:MEs K es ces)(h:bO (.plain k ks) v es=some r):
 (KZ t cv ces).run P w= .ok (r.map fun j=>(j,(ces.getD j default).val)) w:=by
 have hun:∃dd,P.underlying t=some dd:=by
  obtain⟨i,dd,_,hdd,_⟩:=eO hk;exact⟨dd,hdd⟩
 obtain⟨dd,hdd⟩:=hun;simp only[KZ,Kd,run_underlying hdd,Kc];have ha:=oC w hks hk hd hv es ces 0 r hm h;cases hq:KF dd cv ces 0 with
 |none=>simpa using ha
 |some q=>
  have:=zH hks hk hdd hv es ces 0 r q hm h hq;subst this;simp
theorem rX{e:mS}{v:V}:∀{es:List ME} {j:Nat},bO e v es=some (some j)→j<es.length∧veq e v (es.getD j default).k=some true
 | [],j,h=>by simp[bO] at h
 |x::es,j,h=>by
  simp only[bO] at h;split at h
  ·rename_i he;injection h with h;injection h with h;subst h;exact⟨Zm,by simpa using he⟩
  ·obtain⟨q,hq,hj⟩:=Kb.1 h;cases q with
   |none=>cases hj
   |some i=>
    injection hj with hj;subst hj;have:=rX hq;exact⟨by simp;omega,by simpa using this.2⟩
  simp at h
end
section
variable{P:Program}{o:Oper}{act:Act}{K:Ker}{sl:List V}{h:Hp}{R:V→Prop}
theorem yJ{op:BinOp}{t yt:TypeId}{x y:Operand}{l:aR}(hl:yK P op t yt x y=some l)(hs:SlV K sl act)(aAB:l.sem sl h R):
 ∃cv v,(do eqGuard op t x y (act.eval x) (act.eval y);binOp op t (act.eval x) (act.eval y):Sem Value).run P K.w= .ok cv K.w∧VR K v cv∧R v:=by
 unfold yK at hl;obtain⟨lx,hx,hl⟩:=Ka.1 hl;obtain⟨ly,hy,hl⟩:=Ka.1 hl;have vx:=aE hx hs;have vy:=aE hy hs;have aR8:∀(op:BinOp),(aR.bin op lx ly).sem sl h R→(op≠ .shl∧op≠ .shr∨∃s,lx.ev sl= .str s)→∃cv v,(do eqGuard op t x y (act.eval x) (act.eval y);binOp op t (act.eval x) (act.eval y):Sem Value).run P K.w= .ok cv K.w∧VR K v cv∧R v:=by
  intro op aAB hop;simp only[aR.sem] at aAB;generalize lx.ev sl=v at vx aAB hop;generalize ly.ev sl=u at vy aAB;generalize act.eval x=a at vx⊢;generalize act.eval y=b at vy⊢;split at aAB
  ·obtain⟨rfl,hR⟩:=aAB;cases vx;cases vy;obtain⟨cv,v,h1,h2,h3⟩:=Cl (P:=P) (K:=K) (t:=t) (hop.resolve_right (by rintro⟨s,hs⟩;cases hs)) hR;refine⟨cv,v,?_,h2,h3⟩;rw[Kd,eS _ _ _ _ _ _ _ Zm Zm];exact h1
  ·cases vx;cases vy;obtain⟨cv,v,h1,h2,h3⟩:=Cb (P:=P) (K:=K) (ty:=t) aAB;refine⟨cv,v,?_,h2,h3⟩;rw[Kd,eS _ _ _ _ _ _ _ Zm Zm];exact h1
  exact aAB.elim
 split at hl
 ·split at hl
  ·simp at hl
  rename_i hop;injection hl with hl;subst hl;exact aR8 op aAB (.inl ⟨fun e=>hop (.inl e),fun e=>hop (.inr e)⟩)
 ·injection hl with hl;subst hl;by_cases hop:op= .shl∨op= .shr
  ·refine aR8 op aAB ?_;simp only[aR.sem] at aAB;split at aAB
   ·obtain⟨rfl,hR⟩:=aAB;rcases hop with rfl|rfl<;>exact hR.elim
   ·rename_i s t h1 h2;exact .inr ⟨s,h1⟩
   exact aAB.elim
  exact aR8 op aAB (.inl ⟨fun e=>hop (.inl e),fun e=>hop (.inr e)⟩)
 obtain⟨ng,hn,hl⟩:=Ka.1 hl;obtain⟨e,he,hl⟩:=Kb.1 hl;subst hl;simp only[aR.sem] at aAB;split at aAB
 ·rename_i r hr;exact⟨_,_,uo he vx vy hr hn, .bool _,aAB⟩
 exact aAB.elim
theorem zI{fs:Array Field}(hs:SlV K sl act)(places:Array (Nat×Nat))(hp:∀(i:Nat) (f:Field) (k:Sh),fs[i]?=some f→bV P f.type=some k→places[i]?=some (f.offset,k.size))(n:Nat):
 ∀(parts:List (Nat×Operand)) (lp:List (Nat×Sh×aI)) (zs:List V) (cz:Array Value),kN P fs parts=some lp→zs.length=n→cz.size=n→
  (∀j,j<n→VR K (zs.getD j V.undef) (cz.getD j Kk))→(∀p∈lp,(p.2.2.ev sl).fits p.2.1=true∧p.1+p.2.1.size≤n)→
  ∃cz',Qg (places[·]?) cz (parts.map fun(i,x)=>(i,act.eval x))=some cz'∧VR K (.agg (zJ zs (lp.map fun p=>(p.1,(p.2.2.ev sl).cells)))) (.agg cz')
 | [],lp,zs,cz,hl,hz,hc,hv,_=>by
  simp[kN] at hl;subst hl;exact⟨cz,rfl, .agg zs cz or (fun i hi=>hv i or)⟩
 |(i,x)::r,lp,zs,cz,hl,hz,hc,hv,aAK=>by
  unfold kN at hl;split at hl
  ·rename_i f hf;obtain⟨k,hk,hl⟩:=Ka.1 hl;obtain⟨l,hx,hl⟩:=Ka.1 hl;obtain⟨lr,hr,hl⟩:=Kb.1 hl;subst hl;have vx:=aE hx hs;have h0:=aAK (f.offset,k,l) Zm;simp only at h0;obtain⟨c1,c2,c3,c4⟩:=vx.cells h0.1;have hpl:=hp i f k hf hk
   have step:∃cz1:Array Value,(((act.eval x).cells.zipIdx.foldl (fun cs (c,j)=>cs.setIfInBounds (f.offset+j) c) cz))=cz1∧cz1.size=n∧
    ∀j,j<n→VR K ((zs.take f.offset++(l.ev sl).cells++zs.drop (f.offset+(l.ev sl).cells.length)).getD j V.undef) (cz1.getD j Kk):=by
    have fold:∀(cs:List Value) (s:Nat) (c0:Array Value),(cs.zipIdx s).foldl (fun cs (p:Value×Nat)=>cs.setIfInBounds (f.offset+p.2) p.1) c0=(cs.zipIdx s).foldl (fun cs (p:Value×Nat)=>cs.setIfInBounds (f.offset+p.2) p.1) c0:=fun _ _ _=>rfl
    have key:∀(cs:List Value) (s:Nat) (c0:Array Value),((cs.zipIdx s).foldl (fun cs (p:Value×Nat)=>cs.setIfInBounds (f.offset+p.2) p.1) c0).size=c0.size∧
     ∀j,j<c0.size→((cs.zipIdx s).foldl (fun cs (p:Value×Nat)=>cs.setIfInBounds (f.offset+p.2) p.1) c0).getD j Kk=if f.offset+s≤j∧j<f.offset+s+cs.length then cs.getD (j-(f.offset+s)) Kk else c0.getD j Kk:=by
     intro cs;induction cs with
     |nil=>intro s c0;exact⟨rfl,fun j hj=>by simp;omega⟩
     |cons c cs ih=>
      intro s c0;obtain⟨i1,i2⟩:=ih (s+1) (c0.setIfInBounds (f.offset+s) c);rw[List.zipIdx_cons,List.foldl_cons];refine⟨by rw[i1];simp,fun j hj=>?_⟩;rw[i2 j (by simpa using hj)];by_cases e:j=f.offset+s
      ·subst e;simp[hj,Kg];intro h1;omega
      by_cases e2:f.offset+(s+1)≤j∧j<f.offset+(s+1)+cs.length
      ·rw[if_pos e2,if_pos (by simp;omega)];have:j-(f.offset+s)=(j-(f.offset+(s+1)))+1:=or;rw[this];simp
      rw[if_neg e2,if_neg (by simp;omega)];simp only[Kg];rw[Array.getElem?_setIfInBounds_ne or]
    obtain⟨k1,k2⟩:=key (act.eval x).cells.toList 0 cz;refine⟨_,rfl,?_,fun j hj=>?_⟩
    ·have:(act.eval x).cells.zipIdx.foldl (fun cs (c,j)=>cs.setIfInBounds (f.offset+j) c) cz=((act.eval x).cells.toList.zipIdx 0).foldl (fun cs (p:Value×Nat)=>cs.setIfInBounds (f.offset+p.2) p.1) cz:=by
      rw[←KV,KU]
     rw[this,k1,hc]
    have:(act.eval x).cells.zipIdx.foldl (fun cs (c,j)=>cs.setIfInBounds (f.offset+j) c) cz=((act.eval x).cells.toList.zipIdx 0).foldl (fun cs (p:Value×Nat)=>cs.setIfInBounds (f.offset+p.2) p.1) cz:=by
     rw[←KV,KU]
    rw[this,k2 j or];have hlen:(act.eval x).cells.toList.length=k.size:=by simpa using c2
    by_cases e:f.offset+0≤j∧j<f.offset+0+(act.eval x).cells.toList.length
    ·rw[if_pos e];have hj2:j-f.offset<k.size:=or;have:=c3 (j-f.offset) hj2;have e1:(zs.take f.offset++(l.ev sl).cells++zs.drop (f.offset+(l.ev sl).cells.length)).getD j V.undef=(l.ev sl).cell (j-f.offset):=by
      simp only[V.cell,Kf,KY];rw[Ky (by simp;omega),KK (by simp;omega)];have:j-(zs.take f.offset).length=j-f.offset:=by simp;omega
      rw[this]
     rw[e1];simpa [Kg,Kf] using this
    rw[if_neg e];have:=hv j hj;have e1:(zs.take f.offset++(l.ev sl).cells++zs.drop (f.offset+(l.ev sl).cells.length)).getD j V.undef=zs.getD j V.undef:=by
     simp only[Kf,KY];by_cases e3:j<f.offset
     ·rw[KK (by simp;omega),KW,if_pos e3]
     rw[Ky (by simp;omega),Ky (by simp;omega),KX];congr 2;simp;omega
    rw[e1];exact this
   obtain⟨cz1,hz1,hz2,hz3⟩:=step;obtain⟨cz',q1,q2⟩:=zI hs places hp n r lr (zs.take f.offset++(l.ev sl).cells++zs.drop (f.offset+(l.ev sl).cells.length)) cz1 hr (by simp;omega) hz2 hz3 (fun p hp=>aAK p (by simp[hp]));refine⟨cz',?_,q2⟩;rw[List.map_cons,Qg];simp only[hpl,c2];rw[if_neg (by simp;omega)];rw[hz1];exact q1
  simp at hl
theorem oK{l:aR}(hl:sB P o=some l)(hs:SlV K sl act)(hr:Rel K h)(aAB:l.sem sl h R):sZ P o act K R:=by
 unfold sB at hl;split at hl;case h_1 x hop=>
  obtain⟨lx,hx,rfl⟩:=Kb.1 hl;exact⟨_,_,by simp[execOp,hop],aE hx hs,aAB⟩
 case h_2 x hop=>
  obtain⟨lx,hx,rfl⟩:=Kb.1 hl;exact⟨_,_,by simp[execOp,hop],aE hx hs,aAB⟩
 case h_3 c a b hop=>
  obtain⟨lc,hc,hl⟩:=Ka.1 hl;obtain⟨la,ha,hl⟩:=Ka.1 hl;obtain⟨lb,hb,rfl⟩:=Kb.1 hl;have vc:=aE hc hs;have va:=aE ha hs;have vb:=aE hb hs;simp only[aR.sem] at aAB;split at aAB
  ·rename_i t ht;rw[ht] at vc;generalize hcv:act.eval c=cv at vc;cases vc;refine⟨if t then act.eval a else act.eval b,_,?_,?_,aAB⟩
   ·simp[execOp,hop,hcv,asBool]
   generalize la.ev sl=v at va⊢;generalize lb.ev sl=u at vb⊢;generalize act.eval a=ca at va⊢;generalize act.eval b=cb at vb⊢;unfold V.pick;split
   ·cases va;cases vb;cases t<;>exact .bool _
   cases t
   ·exact vb
   exact va
  exact aAB.elim
 case h_4 t x hop=>
  obtain⟨k,hk,hl⟩:=Ka.1 hl;obtain⟨lx,hx,rfl⟩:=Kb.1 hl;obtain⟨cv,v,h1,h2,h3⟩:=By hk hr (aE hx hs) lx rfl aAB;exact⟨cv,v,by simp[execOp,hop,h1],h2,h3⟩
 case h_5 x hop=>
  obtain⟨lx,hx,rfl⟩:=Kb.1 hl;have vx:=aE hx hs;simp only[aR.sem] at aAB;split at aAB
  ·rename_i n k i oo he;rw[he] at vx;generalize hcv:act.eval x=cv at vx;cases vx with
   |ptr _ _ _ _ hn=>exact⟨_,_,by simp[execOp,hop,hcv], .ptr n k i oo hn,aAB⟩
  ·rename_i k es i oo he;rw[he] at vx;generalize hcv:act.eval x=cv at vx;cases vx with
   |ept _ _ _ _ b off f hb aAK hcell hst hv=>exact⟨_,_,by simp[execOp,hop,hcv], .ept k es i oo b off f hb aAK hcell hst hv,aAB⟩
  exact aAB.elim
 case h_6 op t x y yt hop=>
  obtain⟨cv,v,h1,h2,h3⟩:=yJ hl hs aAB;refine⟨cv,v,?_,h2,h3⟩;have:(execOp act.eval o)=(do pure (.value (←(do eqGuard op t x y (act.eval x) (act.eval y);binOp op t (act.eval x) (act.eval y):Sem Value))):Sem Next):=by simp only[execOp,hop]
  rw[this,Kd,h1];rfl
 case h_7 t x hop=>
  obtain⟨lx,hx,rfl⟩:=Kb.1 hl;have vx:=aE hx hs;simp only[aR.sem] at aAB;split at aAB
  ·rename_i b he;rw[he] at vx;generalize hcv:act.eval x=cv at vx;cases vx;exact⟨_,_,by simp[execOp,hop,hcv,Op.unary], .bool _,aAB⟩
  exact aAB.elim
 case h_8 t x hop=>
  obtain⟨lx,hx,rfl⟩:=Kb.1 hl;have vx:=aE hx hs;simp only[aR.sem] at aAB;split at aAB
  ·rename_i k n he;rw[he] at vx;generalize hcv:act.eval x=cv at vx;cases vx;exact⟨.int k (k.wrap (0-n)),_,by simp[execOp,hop,hcv,Op.unary,Op.intArith], .int _ _,aAB⟩
  exact aAB.elim
 case h_9 s d x hop=>
  split at hl
  ·rename_i ks kd h1 h2;obtain⟨lx,hx,rfl⟩:=Kb.1 hl;have vx:=aE hx hs;simp only[aR.sem] at aAB;split at aAB
   ·rename_i k n he;rw[he] at vx;generalize hcv:act.eval x=cv at vx;cases vx;exact⟨_,_,by simp[execOp,hop,hcv,convert,run_underlying h1,run_underlying h2,Conv.intToInt], .int _ _,aAB⟩
   exact aAB.elim
  simp at hl
 case h_10 t x hop=>
  split at hl
  ·simp at hl
  ·rename_i d hd1 hd;obtain⟨lx,hx,rfl⟩:=Kb.1 hl;have vx:=aE hx hs;refine⟨_,_,?_, .iface t _ _ vx,aAB⟩;simp only[execOp,hop,Instr.makeInterface,Kd,run_underlying hd,Kc];cases d<;>first|rfl|(exfalso;exact hd1 _ hd)|(exfalso;exact hd1 _ rfl)
  simp at hl
 case h_11 f first cap hop=>
  obtain⟨la,ha,hl⟩:=Ka.1 hl;obtain⟨lb,hb,rfl⟩:=Kb.1 hl;obtain⟨a1,a2⟩:=eL hs _ _ _ ha;obtain⟨b1,b2⟩:=eL hs _ _ _ hb;refine⟨.func f (first.map act.eval) (cap.map act.eval),_,by simp[execOp,hop,Instr.makeFunc], .fn f _ _ _ _ (by simpa using a1) (by simpa using b1) (fun i hi=>?_) (fun i hi=>?_),aAB⟩
  ·have:=a2 i (by simpa using hi);simpa [Kg,Kf] using this
  have:=b2 i (by simpa using hi);simpa [Kg,Kf] using this
 case h_12 s x f hop=>
  split at hl
  ·rename_i fs hu;split at hl
   ·rename_i fl hf;split at hl
    ·simp at hl
    rename_i hc;obtain⟨lx,hx,rfl⟩:=Kb.1 hl;have vx:=aE hx hs;have hz:∃i,P.info? fl.type=some i∧i.size≠0:=by
     unfold Program.cellsOf at hc;cases hi:P.info? fl.type with
     |none=>simp[hi] at hc
     |some i=>simp[hi] at hc;exact⟨i,rfl,hc⟩
    obtain⟨inf,hi,hz⟩:=hz;have hfp:∀a:Addr,(fieldPlace a fl).run P K.w= .ok (a.add fl.offset) K.w:=fun a=>by simp[fieldPlace,sizeOf,typeInfo,hi,hz]
    simp only[aR.sem] at aAB;split at aAB
    ·rename_i n k i oo he;rw[he] at vx;generalize hcv:act.eval x=cv at vx;cases vx with
     |ptr _ _ _ _ hn=>
      refine⟨_,_,?_, .ptr n k i (oo+fl.offset) hn,aAB⟩;simp only[execOp,hop,hcv,Qa,Kd,run_underlying hu,Kc,hf,Kx,Ke,hfp,cV,Ki]
    ·rename_i k es i oo he;rw[he] at vx;generalize hcv:act.eval x=cv at vx;cases vx with
     |ept _ _ _ _ b off f hb aAK hcell hst hv=>
      refine⟨_,_,?_, .ept k es i (oo+fl.offset) b off f hb aAK hcell hst hv,aAB⟩;simp only[execOp,hop,hcv,Qa,Kd,run_underlying hu,Kc,hf,Kx,Ke,hfp,cV,Ki]
    exact aAB.elim
   simp at hl
  simp at hl
 case h_13 s x f hop=>
  split at hl
  ·rename_i fs hu;split at hl
   ·rename_i fl hf;obtain⟨k,hk,hl⟩:=Ka.1 hl;obtain⟨lx,hx,rfl⟩:=Kb.1 hl;have vx:=aE hx hs;simp only[aR.sem] at aAB;split at aAB
    ·rename_i cs he;obtain⟨hp,hlf,hR⟩:=aAB;rw[he] at vx;have aAK:(V.agg cs).fits (.agg cs.length)=true:=by simp only[V.fits,decide_true,Bool.true_and];exact hlf
     obtain⟨f1,f2,f3⟩:=fB hp aAK;have f2:fl.offset+k.size≤cs.length:=f2;generalize hcv:act.eval x=cv at vx;cases vx with
     |agg _ ccs hl hv=>
      have aDc:=nZ hk K.w ccs (fun j=>ccs.getD j Kk) fl.offset or (fun _ _=>rfl);refine⟨_,_,?_,VR.aAX (f:=fun j=>ccs.getD (fl.offset+j) Kk) f1 (fun j hj=>?_),hR⟩
      ·simp only[execOp,hop,hcv,Instr.field,Kd,run_underlying hu,Kc,hf,asAgg,Ke,aDc]
      rw[f3 j hj];exact hv (fl.offset+j) or
    exact aAB.elim
   simp at hl
  simp at hl
 case h_14 t x i hop=>
  split at hl
  ·rename_i e hu;obtain⟨k,hk,hl⟩:=Ka.1 hl;obtain⟨lx,hx,hl⟩:=Ka.1 hl;obtain⟨li,hi,rfl⟩:=Kb.1 hl;have vx:=aE hx hs;have vi:=aE hi hs;simp only[aR.sem] at aAB;split at aAB
   ·rename_i k' own es ik j he hj;obtain⟨rfl,h0,h1,hR⟩:=aAB;rw[he] at vx;rw[hj] at vi;generalize hcv:act.eval x=cv at vx;generalize hci:act.eval i=ci at vi;cases vi;cases vx with
    |slnil=>simp at h1;omega
    |slz=>simp at h1;omega
    |sl _ _ _ b off cap f hb aAK hcell hst hv hcap aAf aAa aAy=>
     refine⟨_,_,?_, .ept k' es j.toNat 0 b off f hb aAK hcell hst hv,hR⟩;simp only[execOp,hop,hcv,hci,KG,asIntOf,Kd,Ke,Kc,run_underlying hu];rw[if_pos ⟨h0,h1⟩];simp only[Kd,dL hk,Kc,Ke,cV,KH]
   ·rename_i n k' off ln ik j he hj;obtain⟨rfl,h0,h1,hR⟩:=aAB;rw[he] at vx;rw[hj] at vi;generalize hcv:act.eval x=cv at vx;generalize hci:act.eval i=ci at vi;cases vi;cases vx with
    |rs _ _ _ _ cap hn hcap hm=>
     refine⟨_,_,?_, .ptr n k' (off+j.toNat) 0 hn,hR⟩;simp only[execOp,hop,hcv,hci,KG,asIntOf,Kd,Ke,Kc,run_underlying hu];rw[if_pos ⟨h0,h1⟩];simp only[Kd,dL hk,Kc,Ke,cV,KH,Kw]
   exact aAB.elim
  ·rename_i n e hu;obtain⟨k,hk,hl⟩:=Ka.1 hl;obtain⟨lx,hx,hl⟩:=Ka.1 hl;obtain⟨li,hi,rfl⟩:=Kb.1 hl;have vx:=aE hx hs;have vi:=aE hi hs;simp only[aR.sem] at aAB;split at aAB
   ·rename_i m k' i' oo ik j he hj;obtain⟨h0,h1,hR⟩:=aAB;rw[he] at vx;rw[hj] at vi;generalize hcv:act.eval x=cv at vx;generalize hci:act.eval i=ci at vi;cases vi;cases vx with
    |ptr _ _ _ _ hn=>
     refine⟨_,_,?_, .ptr m k' i' (oo+j.toNat*k.size) hn,hR⟩;simp only[execOp,hop,hcv,hci,KG,asIntOf,Kd,Ke,Kc,run_underlying hu,Kx];rw[if_pos ⟨h0,h1⟩];simp only[Kd,dL hk,Kc,Ke,cV,Ki]
   ·rename_i k' es' i' oo ik j he hj;obtain⟨h0,h1,hR⟩:=aAB;rw[he] at vx;rw[hj] at vi;generalize hcv:act.eval x=cv at vx;generalize hci:act.eval i=ci at vi;cases vi;cases vx with
    |ept _ _ _ _ b off f hb aAK hcell hst hv=>
     refine⟨_,_,?_, .ept k' es' i' (oo+j.toNat*k.size) b off f hb aAK hcell hst hv,hR⟩;simp only[execOp,hop,hcv,hci,KG,asIntOf,Kd,Ke,Kc,run_underlying hu,Kx];rw[if_pos ⟨h0,h1⟩];simp only[Kd,dL hk,Kc,Ke,cV,Ki]
   exact aAB.elim
  simp at hl
 case h_15 x i hop=>
  obtain⟨lx,hx,rfl⟩:=Kb.1 hl;have vx:=aE hx hs;simp only[aR.sem] at aAB;split at aAB
  ·rename_i vs he;rw[he] at vx;generalize hcv:act.eval x=cv at vx;cases vx with
   |tup _ ccs hlen hv=>
    refine⟨_,_,?_,hv i aAB.1,aAB.2⟩;have:ccs[i]?=some (ccs.getD i Kk):=by
     rw[Kg,KL or];rfl
    simp only[execOp,hop,hcv,Instr.extract,this,Kd,Ke,Kc]
  exact aAB.elim
 case h_16 t x lo hi mx hop=>
  have bnd:∀(o:Option Operand) (lo:Option aI) (d:Int) (n:Int),dX P o=some lo→cH sl d lo=some n→(o=none∧lo=none∧n=d)∨∃x l k,o=some x∧lo=some l∧act.eval x= .int k n∧dF sl lo=some n:=by
   intro o lo d n h1 h2;cases o with
   |none=>
    simp only[dX,Option.some.injEq] at h1;subst h1;simp only[cH,Option.some.injEq] at h2;exact .inl ⟨rfl,rfl,h2.symm⟩
   |some x=>
    simp only[dX] at h1;obtain⟨l,hl,rfl⟩:=Kb.1 h1;have vl:=aE hl hs;simp only[cH] at h2;split at h2
    ·rename_i k m he;injection h2 with h2;subst h2;rw[he] at vl;generalize hcv:act.eval x=cv at vl;cases vl;exact .inr ⟨x,l,k,rfl,rfl,hcv,by simp only[dF,he]⟩
    cases h2
  have hb:∀(isl:Bool) (len cap:Nat) (llo lhi lmx:Option aI) (l h' m:Int),dX P lo=some llo→dX P hi=some lhi→dX P mx=some lmx→
   cH sl 0 llo=some l→cH sl len lhi=some h'→cH sl len lmx=some m→0≤l→l≤h'→h'≤m→m≤len→(lhi.isNone=true→lmx.isNone=true)→len≤cap→
   (Kh isl len cap (lo.map act.eval) (hi.map act.eval) (mx.map act.eval)).run P K.w= .ok (l.toNat,h'.toNat,if lmx.isSome then m.toNat else cap) K.w:=by
   intro isl len cap llo lhi lmx l h' m hlo hhi hmx b1 b2 b3 l0 l1 l2 l3 l4 hcap;rcases bnd mx lmx _ _ hmx b3 with⟨rfl,rfl,rfl⟩|⟨xm,lm,km,rfl,rfl,em,_⟩
   ·rcases bnd hi lhi _ _ hhi b2 with⟨rfl,rfl,rfl⟩|⟨xh,lh,kh,rfl,rfl,eh,_⟩
    ·rcases bnd lo llo _ _ hlo b1 with⟨rfl,rfl,rfl⟩|⟨xl,ll,kl,rfl,rfl,el,_⟩
     ·simp[Kh]
     have c1:0≤l∧l≤(len:Int):=⟨l0,or⟩;simp[Kh,Ku,el,asIntOf,c1]
    have c2:0≤h'∧h'≤(cap:Int):=⟨or,or⟩;rcases bnd lo llo _ _ hlo b1 with⟨rfl,rfl,rfl⟩|⟨xl,ll,kl,rfl,rfl,el,_⟩
    ·simp[Kh,Ku,eh,asIntOf,c2]
    have c1:0≤l∧l≤((h'.toNat:Nat):Int):=⟨l0,or⟩;simp only[Kh,Ku,el,eh,asIntOf,Km,Kq,Kp,Kd,Ke,Kc,if_pos c1,if_pos c2,Kj,if_false]
   have c3:0≤m∧m≤(cap:Int):=⟨or,or⟩;rcases bnd hi lhi _ _ hhi b2 with⟨rfl,rfl,rfl⟩|⟨xh,lh,kh,rfl,rfl,eh,_⟩
   ·simp at l4
   have c2:0≤h'∧h'≤((m.toNat:Nat):Int):=⟨or,or⟩;rcases bnd lo llo _ _ hlo b1 with⟨rfl,rfl,rfl⟩|⟨xl,ll,kl,rfl,rfl,el,_⟩
   ·simp only[Kh,Ku,em,eh,asIntOf,Km,Kq,KJ,Kd,Ke,Kc,if_pos c2,if_pos c3,if_true];simp
   have c1:0≤l∧l≤((h'.toNat:Nat):Int):=⟨l0,or⟩;simp only[Kh,Ku,em,el,eh,asIntOf,Km,Kq,KJ,Kd,Ke,Kc,if_pos c1,if_pos c2,if_pos c3,if_true]
  split at hl
  ·rename_i e hu;obtain⟨ke,hke,hl⟩:=Ka.1 hl;obtain⟨lx,hx,hl⟩:=Ka.1 hl;obtain⟨llo,hlo,hl⟩:=Ka.1 hl;obtain⟨lhi,hhi,hl⟩:=Ka.1 hl;obtain⟨lmx,hmx,rfl⟩:=Kb.1 hl;have vx:=aE hx hs;simp only[aR.sem] at aAB
   have aAh:∀(a:Option Addr) (len cap:Nat) (l h' m:Int),act.eval x= .slice a len cap→
    cH sl 0 llo=some l→cH sl len lhi=some h'→cH sl len lmx=some m→0≤l→l≤h'→h'≤m→m≤len→(lhi.isNone=true→lmx.isNone=true)→len≤cap→
    (execOp act.eval o).run P K.w= .ok (.value (.slice (if (if lmx.isSome then m.toNat else cap)=l.toNat then a else a.map (·.add (l.toNat*ke.size))) (h'.toNat-l.toNat) ((if lmx.isSome then m.toNat else cap)-l.toNat))) K.w:=by
    intro a len cap l h' m hc b1 b2 b3 l0 l1 l2 l3 l4 hcap;have hsz:=dL hke K.w;have hb:=hb true len cap llo lhi lmx l h' m hlo hhi hmx b1 b2 b3 l0 l1 l2 l3 l4 hcap;simp only[execOp,hop,KO,Kd,run_underlying hu,Kc,hc,Qe,hb,hsz,Ke]
   have hog:∀(o:Option Operand) (lo:Option aI) (d n:Int),dX P o=some lo→cH sl d lo=some n→(lo=none∧dF sl lo=none∧n=d)∨(lo.isSome=true∧dF sl lo=some n):=by
    intro o lo d n h1 h2;rcases bnd o lo d n h1 h2 with⟨_,rfl,h3⟩|⟨x,l,k,_,rfl,_,h3⟩
    ·exact .inl ⟨rfl,rfl,h3⟩
    exact .inr ⟨rfl,h3⟩
   split at aAB
   ·rename_i k' own es he;split at aAB
    ·rename_i l h' m b1 b2 b3;obtain⟨rfl,l0,l1,l2,l3,l4,hR⟩:=aAB;rw[he] at vx;generalize hcv:act.eval x=cv at vx;have hlen:((es.take h'.toNat).drop l.toNat).length=h'.toNat-l.toNat:=by simp;omega
     cases vx with
     |slnil=>
      have hz:l=0∧h'=0∧m=0:=by simp at l3;omega
      refine⟨_,_,aAh none 0 0 l h' m hcv b1 b2 b3 l0 l1 l2 l3 l4 (KB _),?_,hR⟩;obtain⟨rfl,rfl,rfl⟩:=hz;simpa [fO,sQ] using VR.slnil (K:=K) k'
     |slz _ ad=>
      have hz:l=0∧h'=0∧m=0:=by simp at l3;omega
      refine⟨_,_,aAh (some ad) 0 0 l h' m hcv b1 b2 b3 l0 l1 l2 l3 l4 (KB _),?_,hR⟩;obtain⟨rfl,rfl,rfl⟩:=hz;simpa [iG] using VR.slz (K:=K) k' ad
     |sl _ _ _ b off cap f hb' aAK hcell hst hv hcap aAf aAa aAy=>
      refine⟨_,_,aAh _ es.length cap l h' m hcv b1 b2 b3 l0 l1 l2 l3 l4 hcap,?_,hR⟩;refine VR.aC3 aAf ?_;have hnc:∃nc,(if lmx.isSome then m.toNat else cap)=nc∧h'.toNat≤nc∧nc≤cap∧fO own (dF sl lhi) (dF sl lmx)≠ .nil∧(fO own (dF sl lhi) (dF sl lmx)= .full→nc=h'.toNat)∧∀n,fO own (dF sl lhi) (dF sl lmx)= .tok n→own= .tok n∧nc=cap∧h'.toNat=es.length:=by
       refine⟨_,rfl,?_⟩;rcases hog mx lmx _ _ hmx b3 with⟨e1,e2,e3⟩|⟨e1,e2⟩
       ·subst e1;rcases hog hi lhi _ _ hhi b2 with⟨f1,f2,f3⟩|⟨f1,f2⟩
        ·subst f1;have ec:fO own (dF sl none) (dF sl none)=own:=by cases own<;>rfl
         rw[ec];simp only[Kp,Kj,if_false];exact⟨or,KB _,aAf,fun h=>by rw[aAa h];omega,fun n h=>⟨h,trivial,or⟩⟩
        have ec:fO own (dF sl lhi) (dF sl none)= .free:=by
         rw[f2];cases own<;>first|rfl|exact absurd rfl aAf
        rw[ec];simp only[Kp,Kj,if_false];exact⟨or,KB _,Zm,Zm,Zm⟩
       rcases hog hi lhi _ _ hhi b2 with⟨f1,f2,f3⟩|⟨f1,f2⟩
       ·subst f1;have:=l4 rfl;simp_all
       have ec:fO own (dF sl lhi) (dF sl lmx)=if h'=m then .full else .free:=by
        rw[f2,e2];cases own<;>first|rfl|exact absurd rfl aAf
       rw[ec];rw[if_pos e1];refine⟨or,or,by split<;>simp,fun h=>?_,fun n h=>by split at h<;>cases h⟩;split at h
       ·rename_i e;rw[e]
       cases h
      obtain⟨nc,hnc,n1,n2,n3,n4,n5⟩:=hnc;rw[hnc,←hlen];have sz:∀j,j<((es.take h'.toNat).drop l.toNat).length*k'.size→l.toNat*k'.size+j<es.length*k'.size:=by
       intro j hj;rw[hlen] at hj;have h1:l.toNat*k'.size+(h'.toNat-l.toNat)*k'.size=h'.toNat*k'.size:=by rw[←Kw];congr 1;omega
       have h2:h'.toNat*k'.size≤es.length*k'.size:=Ks _ or;omega
      have aBF:∀i,i<((es.take h'.toNat).drop l.toNat).length→((es.take h'.toNat).drop l.toNat).getD i V.undef=es.getD (l.toNat+i) V.undef:=by
       intro i hi;rw[hlen] at hi;simp only[Kf,KX,KW];rw[if_pos or]
      by_cases hcl:nc=l.toNat
      ·rw[if_pos hcl];have h0:((es.take h'.toNat).drop l.toNat).length=0:=or;refine VR.sl k' _ _ b off _ f hb' (fun e he=>aAK e (KR (KS he))) (fun j hj=>by rw[h0] at hj;simp at hj) (fun j hj=>by rw[h0] at hj;simp at hj) (fun i hi=>by rw[h0] at hi;exact absurd hi or) or n3 (fun _=>or) (fun n hn=>?_);obtain⟨o1,o2,o3⟩:=n5 n hn;exact⟨(aAy n o1).1, .inl or⟩
      rw[if_neg hcl];have aFt:(Ql (fun a:Addr=>a.add (l.toNat*k'.size)) (some ⟨b,off,none⟩))=some ⟨b,off+l.toNat*k'.size,none⟩:=by simp only[Km,cV]
      rw[aFt];refine VR.sl k' _ _ b (off+l.toNat*k'.size) _ (fun j=>f (l.toNat*k'.size+j)) hb' (fun e he=>aAK e (KR (KS he))) (fun j hj=>?_) (fun j hj=>?_) (fun i hi j hj=>?_) or n3 (fun h=>by have:=n4 h;omega) (fun n hn=>?_)
      ·rw[Ki];exact hcell _ (sz j hj)
      ·rw[Ki];exact hst _ (sz j hj)
      ·rw[aBF i hi];have:=hv (l.toNat+i) or j hj;rw[Kw,Ki] at this;exact this
      obtain⟨o1,o2,o3⟩:=n5 n hn;obtain⟨t1,t2⟩:=aAy n o1;refine⟨t1,?_⟩;rcases t2 with t2|⟨t2,t3,T,mm,t4,t5⟩
      ·exact .inl or
      refine .inr ⟨t2,?_,T,mm,t4,?_⟩
      ·rw[t3,hlen,o3,Ki,←Kw];congr 2;omega
      rw[o2,Ki,←Kw];have:l.toNat+(cap-l.toNat)=cap:=or;rw[this];exact t5
    exact aAB.elim
   ·rename_i n k' off ln he;split at aAB
    ·rename_i l h' b1 b2 _ _ _ _;obtain⟨rfl,l0,l1,l2,hR⟩:=aAB;rw[he] at vx;generalize hcv:act.eval x=cv at vx;cases vx with
     |rs _ _ _ _ cap hn hcap hm=>
      refine⟨_,_,aAh _ ln cap l h' ln hcv b1 b2 rfl l0 l1 l2 (KC _) (fun _=>rfl) hcap,?_,hR⟩;simp only[Kp,Kj,if_false];obtain⟨T,mm,hsh,hmm⟩:=hm;have hlt:K.mu n<K.w.heap.size:=by
       unfold KQ at hsh;rcases Qi (K.mu n) K.w.heap.size with hlt|hge
       ·exact hlt
       rw[KP hge] at hsh;exact absurd hsh Zm
      have aFt:(Ql (fun a:Addr=>a.add (l.toNat*k'.size)) (some ⟨K.mu n,off*k'.size,none⟩))=some ⟨K.mu n,(off+l.toNat)*k'.size,none⟩:=by simp only[Km,cV,Kw]
      by_cases hc1:l.toNat=ln∧l.toNat≠0
      ·rw[if_pos hc1];have e0:h'.toNat-l.toNat=0:=or;rw[e0];have:∀o,VR K (.sl k' .free []) (.slice (some ⟨K.mu n,o,none⟩) 0 (cap-l.toNat)):=fun o=>
        VR.sl k' .free [] (K.mu n) o (cap-l.toNat) (fun _=>Kk) hlt Zm Zm Zm Zm Zm Zm Zm Zm
       split
       ·exact this _
       rw[aFt];exact this _
      rw[if_neg hc1];split
      ·rename_i e;have:l.toNat=0:=or;rw[this];exact VR.rs n k' off (h'.toNat-0) (cap-0) hn or ⟨T,mm,hsh,hmm⟩
      rw[aFt];refine VR.rs n k' (off+l.toNat) (h'.toNat-l.toNat) (cap-l.toNat) hn or ⟨T,mm,hsh,?_⟩;have:off+l.toNat+(cap-l.toNat)=off+cap:=or;rw[this];exact hmm
    ·rename_i l h' mx' b1 b2 _ _ _ _;obtain⟨b3,rfl,rfl,rfl,his,hR⟩:=aAB;rw[he] at vx;generalize hcv:act.eval x=cv at vx;cases vx with
     |rs _ _ _ _ cap hn hcap hm=>
      refine⟨_,_,aAh _ ln cap 0 0 0 hcv b1 b2 b3 (KC _) (KC _) (KC _) or (fun h=>by rw[Option.isNone_iff_eq_none] at h;rw[h] at his;cases his) hcap,?_,hR⟩;obtain⟨T,mm,hsh,hmm⟩:=hm;have hlt:K.mu n<K.w.heap.size:=by
       unfold KQ at hsh;rcases Qi (K.mu n) K.w.heap.size with hlt|hge
       ·exact hlt
       rw[KP hge] at hsh;exact absurd hsh Zm
      simp only[KJ,if_true,Qc,Nat.sub_self];exact VR.sl k' .full [] (K.mu n) (off*k'.size) 0 (fun _=>Kk) hlt Zm Zm Zm Zm Zm Zm Zm Zm
    exact aAB.elim
   exact aAB.elim
  ·rename_i hu;split at hl
   ·simp at hl
   rename_i hmn;obtain⟨lx,hx,hl⟩:=Ka.1 hl;obtain⟨llo,hlo,hl⟩:=Ka.1 hl;obtain⟨lhi,hhi,rfl⟩:=Kb.1 hl;have vx:=aE hx hs;have hmn:mx=none:=by simpa using hmn
   simp only[aR.sem] at aAB;split at aAB
   ·rename_i s he;split at aAB
    ·rename_i l h' b1 b2;obtain⟨l0,l1,l2,hR⟩:=aAB;rw[he] at vx;generalize hcv:act.eval x=cv at vx;cases vx;have hb:=hb false s.size s.size llo lhi none l h' s.size hlo hhi (by rw[hmn];rfl) b1 b2 rfl l0 l1 l2 (KC _) (fun _=>rfl) (KB _);subst hmn;simp only[Kq] at hb;exact⟨_,_,by simp only[execOp,hop,KO,Kd,run_underlying hu,Kc,hcv,Qe,Kq,Kp,Kj,if_false,hb,Ke], .str _,hR⟩
    exact aAB.elim
   exact aAB.elim
  ·rename_i n e hu;split at hl
   ·simp at hl
   rename_i hmn;obtain⟨ke,hke,hl⟩:=Ka.1 hl;obtain⟨lx,hx,hl⟩:=Ka.1 hl;obtain⟨lhi,hhi,rfl⟩:=Kb.1 hl;have vx:=aE hx hs;obtain⟨hm0,hl0⟩:mx=none∧lo=none:=by simpa using hmn
   subst hm0 hl0;simp only[aR.sem] at aAB;split at aAB
   ·rename_i m e1 he;split at aAB
    ·rename_i h' b2;obtain⟨hm,l1,l2,hR⟩:=aAB;rw[he] at vx;generalize hcv:act.eval x=cv at vx;cases vx with
     |ept _ _ _ _ b off f aTO aAK hcell hst hv=>
      have hsz:=dL hke K.w;have hb:=hb false n n none lhi none 0 h' n rfl hhi rfl rfl b2 rfl (KC _) l1 l2 (KC _) (fun _=>rfl) (KB _);simp only[Kq] at hb;have hf1:=aAK e1 Zm;have hlen:((nK ke n e1).take h'.toNat).length=h'.toNat:=by simp[nK];omega
      have aDc:∀j,j<n→bU (.agg m) ke (j*ke.size):=fun j hj=>by
       have h2:(j+1)*ke.size≤n*ke.size:=Ks _ hj;rw[Kw] at h2;cases ke with
       |leaf=>simp only[bU,Sh.size] at h2 hm⊢;omega
       |agg q=>simp only[bU,Sh.size] at h2 hm⊢;omega
      have aBF:∀j,j<h'.toNat→((nK ke n e1).take h'.toNat).getD j V.undef=aX ke (j*ke.size) e1:=fun j hj=>by
       simp only[nK,Kf,List.getElem?_take_of_lt hj,List.getElem?_map];rw[List.getElem?_range or];rfl
      have hle:h'.toNat*ke.size≤n*ke.size:=Ks _ or
      have vs:=VR.sl (K:=K) ke .free ((nK ke n e1).take h'.toNat) b off n f aTO
       (fun x hx=>by
         obtain⟨j,hj,rfl⟩:=List.getElem_of_mem hx;rw[hlen] at hj;have h3:=aBF j hj;rw[Kf,KM (by rw[hlen];exact hj)] at h3;have h3:((nK ke n e1).take h'.toNat)[j]=aX ke (j*ke.size) e1:=h3;rw[h3];exact(fB (aDc j or) hf1).1)
       (fun j hj=>hcell j (show j<1*m by rw[hlen] at hj;omega))
       (fun j hj=>hst j (show j<1*m by rw[hlen] at hj;omega))
       (fun j hj q hq=>by
         rw[hlen] at hj;rw[aBF j hj,(fB (aDc j or) hf1).2.2 q hq];have h2:(j+1)*ke.size≤n*ke.size:=Ks _ or;rw[Kw] at h2;have:=hv 0 Zm (j*ke.size+q) (show j*ke.size+q<m by omega);simpa using this)
       (by rw[hlen];omega) Zm Zm (fun q e=>by cases e)
      rw[hlen] at vs;refine⟨_,_,?_,vs,hR⟩;simp only[execOp,hop,KO,Kx,Kd,run_underlying hu,Kc,hcv,Kq,hb,hsz,Ke,Kp,Kj,if_false,Qc,Nat.zero_mul,Nat.sub_zero,KH];simp[Addr.add]
    exact aAB.elim
   exact aAB.elim
  simp at hl
 case h_17 args ts hop=>
  split at hl
  ·rename_i x t hxs hts;have ha:args=#[x]:=by apply KI;simpa using hxs
   have ht:ts=#[t]:=by apply KI;simpa using hts
   subst ha ht;split at hl
   ·rename_i e hu;obtain⟨lx,hx,rfl⟩:=Kb.1 hl;have vx:=aE hx hs;simp only[aR.sem] at aAB;split at aAB
    ·rename_i k own es he;rw[he] at vx;generalize hcv:act.eval x=cv at vx;cases vx<;>exact⟨_,_,by simp[execOp,hop,resolve,invoke,builtin,KD,hcv,run_underlying hu,goInt], .int _ _,aAB⟩
    ·rename_i n k off ln he;rw[he] at vx;generalize hcv:act.eval x=cv at vx;cases vx;exact⟨_,_,by simp[execOp,hop,resolve,invoke,builtin,KD,hcv,run_underlying hu,goInt], .int _ _,aAB⟩
    exact aAB.elim
   ·rename_i hu;obtain⟨lx,hx,rfl⟩:=Kb.1 hl;have vx:=aE hx hs;simp only[aR.sem] at aAB;split at aAB
    ·rename_i s he;rw[he] at vx;generalize hcv:act.eval x=cv at vx;cases vx;exact⟨_,_,by simp[execOp,hop,resolve,invoke,builtin,KD,hcv,run_underlying hu,goInt], .int _ _,aAB⟩
    exact aAB.elim
   ·rename_i kt et hu;obtain⟨lx,hx,rfl⟩:=Kb.1 hl;have vx:=aE hx hs;simp only[aR.sem] at aAB;split at aAB
    ·rename_i he;rw[he] at vx;generalize hcv:act.eval x=cv at vx;cases vx;exact⟨_,_,by simp[execOp,hop,resolve,invoke,builtin,KD,hcv,run_underlying hu,goInt], .int _ _,aAB⟩
    ·rename_i n he;split at aAB
     ·rename_i es c hn;rw[he] at vx;generalize hcv:act.eval x=cv at vx;cases vx;have hb:=hr.blk n _ hn;cases hb with
      |mp _ _ ces hh hl hv=>exact⟨_,_,by simp[execOp,hop,resolve,invoke,builtin,KD,hcv,run_underlying hu,goInt,bW hh,←hl], .int _ _,aAB⟩
     exact aAB.elim
    exact aAB.elim
   simp at hl
  simp at hl
 case h_18 t parts hop=>
  split at hl
  ·rename_i fs z hu hz;split at hl
   ·rename_i zs hzs;split at hl
    ·rename_i hck;obtain⟨lp,hlp,rfl⟩:=Kb.1 hl;simp only[Kt,List.all_eq_true] at hck;obtain⟨aAK,hR⟩:=aAB;have vz:=cX hzs K;obtain⟨it,hit,hiz⟩:=Ka.1 hz;have hpl:fs.toList.mapM (fun f=>(P.info? f.type).map fun i=>(f.offset,i.size))=some (fs.toList.map fun f=>(f.offset,((bV P f.type).map Sh.size).getD 0)):=by
      have:∀l:List Field,(∀f∈l,(bV P f.type).isSome=true)→l.mapM (fun f=>(P.info? f.type).map fun i=>(f.offset,i.size))=some (l.map fun f=>(f.offset,((bV P f.type).map Sh.size).getD 0)):=by
       intro l;induction l with
       |nil=>intro _;rfl
       |cons f l ih=>
        intro hl;obtain⟨k,hk⟩:=Option.isSome_iff_exists.1 (hl f Zm);obtain⟨i,d,hi,hd,hsz,_⟩:=eO hk;simp[List.mapM_cons,hi,ih (fun f hf=>hl f (by simp[hf])),hk,hsz]
      exact this _ hck.2
     cases vz with
     |agg _ cz hlen hv=>
      obtain⟨cz',q1,q2⟩:=zI hs (fs.toList.map fun f=>(f.offset,((bV P f.type).map Sh.size).getD 0)).toArray (fun i f k hf hk=>by
       have:fs.toList[i]?=some f:=by simpa using hf
       simp[hf,hk]) zs.length parts.toList lp zs cz hlp rfl hlen.symm hv aAK
      refine⟨_,_,?_,q2,hR⟩;have hb:P.built t (parts.map fun(i,x)=>(i,act.eval x)).toList=some cz':=by
       unfold Program.built;simp only[hit,hu,hiz,hpl];have hcc:(Value.agg cz).cells=cz:=rfl;rw[hcc];simpa using q1
      simp only[execOp,hop,Kd,run_build K.w t _ cz' hb,Kc,Ke]
    simp at hl
   simp at hl
  simp at hl
 case h_19 x hop=>
  injection hl with hl;subst hl;exact aAB.elim
 case h_20 args ts hop=>
  split at hl
  ·rename_i x t hxs hts;have ha:args=#[x]:=by apply KI;simpa using hxs
   have ht:ts=#[t]:=by apply KI;simpa using hts
   subst ha ht;split at hl
   ·rename_i e hu;obtain⟨lx,hx,rfl⟩:=Kb.1 hl;have vx:=aE hx hs;simp only[aR.sem] at aAB;split at aAB
    ·rename_i k es he;rw[he] at vx;generalize hcv:act.eval x=cv at vx;cases vx with
     |slnil=>exact⟨_,_,by simp[execOp,hop,resolve,invoke,builtin,Qb,hcv,run_underlying hu,goInt], .int _ _,aAB⟩
     |sl _ _ _ b off cap f hb' aA3 hcell hst hv hcap aAf aAa aAy=>exact absurd rfl aAf
    ·rename_i k es he;rw[he] at vx;generalize hcv:act.eval x=cv at vx;cases vx with
     |sl _ _ _ b off cap f hb' aA3 hcell hst hv hcap aAf aAa aAy=>
      have hc:=aAa rfl;subst hc;exact⟨_,_,by simp[execOp,hop,resolve,invoke,builtin,Qb,hcv,run_underlying hu,goInt], .int _ _,aAB⟩
    exact aAB.elim
   simp at hl
  simp at hl
 case h_21 args ts hop=>
  split at hl
  ·rename_i x y hxs;have ha:args=#[x,y]:=by apply KI;simpa using hxs
   subst ha;obtain⟨lx,hx,hl⟩:=Ka.1 hl;obtain⟨ly,hy,rfl⟩:=Kb.1 hl;have vx:=aE hx hs;have vy:=aE hy hs;simp only[aR.sem] at aAB;split at aAB
   ·rename_i k a k' b he he';obtain⟨rfl,aAB⟩:=aAB;rw[he] at vx;rw[he'] at vy;generalize hcv:act.eval x=cv at vx;generalize hcu:act.eval y=cu at vy;cases vx;cases vy;exact⟨_,_,by simp[execOp,hop,resolve,invoke,builtin,Builtin.min_,Builtin.min2,hcv,hcu];rfl, .int _ _,aAB⟩
   exact aAB.elim
  simp at hl
 case h_22 args ts hop=>
  split at hl
  ·rename_i x y hxs;have ha:args=#[x,y]:=by apply KI;simpa using hxs
   subst ha;obtain⟨lx,hx,hl⟩:=Ka.1 hl;obtain⟨ly,hy,rfl⟩:=Kb.1 hl;have vx:=aE hx hs;have vy:=aE hy hs;simp only[aR.sem] at aAB;split at aAB
   ·rename_i k a k' b he he';obtain⟨rfl,aAB⟩:=aAB;rw[he] at vx;rw[he'] at vy;generalize hcv:act.eval x=cv at vx;generalize hcu:act.eval y=cu at vy;cases vx;cases vy;exact⟨_,_,by simp[execOp,hop,resolve,invoke,builtin,Builtin.max_,Builtin.max2,hcv,hcu];rfl, .int _ _,aAB⟩
   exact aAB.elim
  simp at hl
 case h_23 x xt t hop=>
  split at hl
  ·simp at hl
  ·rename_i d z hd1 hd hz;obtain⟨vz,hvz,hl⟩:=Ka.1 hl;obtain⟨lx,hx,rfl⟩:=Kb.1 hl;obtain⟨i,hi,hz⟩:=Ka.1 hz;have vx:=aE hx hs;have hzr:=cX hvz K;have hzv:(zeroValue t).run P K.w= .ok z K.w:=by simp[zeroValue,typeInfo,hi,hz]
   have two:∀(v:V) (cv:Value) (b:Bool),VR K v cv→VR K (.tup [v, .bool b]) (.tuple #[cv, .bool b]):=fun v cv b h=> .tup _ _ rfl fun i hi=>by
    match i,hi with
    |0,_=>exact h
    |1,_=>exact .bool b
   simp only[aR.sem] at aAB;split at aAB
   ·rename_i t' v he;rw[he] at vx;generalize hcv:act.eval x=cv at vx;cases vx with
    |iface _ _ cv h=>
     by_cases e:t'=t
     ·subst e;simp only[if_true,decide_true] at aAB;refine⟨_,_,?_,two _ _ true h,aAB⟩;simp only[execOp,hop,hcv,KA,Kd,run_underlying hd,Kc];cases d<;>first|(simp;done)|(exfalso;exact hd1 _ hd)|(exfalso;exact hd1 _ rfl)
     simp only[if_neg e,decide_eq_false e] at aAB;refine⟨_,_,?_,two _ _ false hzr,aAB⟩;simp only[execOp,hop,hcv,KA,Kd,run_underlying hd,Kc];cases d<;>first|(simp[e,hzv];done)|(exfalso;exact hd1 _ hd)|(exfalso;exact hd1 _ rfl)
   ·rename_i he;rw[he] at vx;generalize hcv:act.eval x=cv at vx;cases vx;refine⟨_,_,?_,two _ _ false hzr,aAB⟩;simp only[execOp,hop,hcv,KA,Kd,run_underlying hd,Kc];cases d<;>first|(simp[hzv];done)|(exfalso;exact hd1 _ hd)|(exfalso;exact hd1 _ rfl)
   exact aAB.elim
  simp at hl
 case h_24 x xt t hop=>
  split at hl
  ·simp at hl
  ·rename_i d hd1 hd;obtain⟨lx,hx,rfl⟩:=Kb.1 hl;have vx:=aE hx hs;simp only[aR.sem] at aAB;split at aAB
   ·rename_i t' v he;obtain⟨rfl,aAB⟩:=aAB;rw[he] at vx;generalize hcv:act.eval x=cv at vx;cases vx with
    |iface _ _ cv h=>
     refine⟨_,_,?_,h,aAB⟩;simp only[execOp,hop,hcv,KA,Kd,run_underlying hd,Kc];cases d<;>first|(simp;done)|(exfalso;exact hd1 _ hd)|(exfalso;exact hd1 _ rfl)
   exact aAB.elim
  simp at hl
 case h_25 t x i ok hop=>
  split at hl
  ·rename_i kt et hu;obtain⟨kS,hkS,hl⟩:=Ka.1 hl;obtain⟨ks,hks,hl⟩:=Ka.1 hl;obtain⟨z,hz,hl⟩:=Ka.1 hl;obtain⟨zv,hzv,hl⟩:=Ka.1 hl;obtain⟨lx,hx,hl⟩:=Ka.1 hl;obtain⟨li,hi,rfl⟩:=Kb.1 hl;have vx:=aE hx hs;have vi:=aE hi hs;obtain⟨it,hit,hz⟩:=Ka.1 hz;have hzr:(zeroValue et).run P K.w= .ok z K.w:=by simp[zeroValue,typeInfo,hit,hz]
   have vz:=cX hzv K;have two:∀(v:V) (cv:Value) (b:Bool),VR K v cv→VR K (.tup [v, .bool b]) (.tuple #[cv, .bool b]):=fun v cv b h=> .tup _ _ rfl fun i hi=>by
    match i,hi with
    |0,_=>exact h
    |1,_=>exact .bool b
   simp only[aR.sem] at aAB;obtain⟨hf,aAB⟩:=aAB;have hck:∀em,(Ko em 10000 kt (act.eval i)).run P K.w= .ok () K.w:=fun em=>fS K.w em hks hkS ZM vi hf;split at aAB
   ·rename_i he;rw[he] at vx;generalize hcv:act.eval x=cv at vx;cases vx;have hfk:=cP (es:=[]) (ces:=[]) (r:=none) K.w hks hkS ZM vi ⟨rfl,fun i hi=>by simp at hi⟩ rfl;cases ok
    ·exact⟨z,zv,by simp[execOp,hop,Kv,hcv,run_underlying hu,hck,hfk,hzr],vz,aAB⟩
    exact⟨_,_,by simp[execOp,hop,Kv,hcv,run_underlying hu,hck,hfk,hzr],two _ _ false vz,aAB⟩
   ·rename_i n he;split at aAB
    ·rename_i es c hn;split at aAB
     ·rename_i r hfd;rw[he] at vx;generalize hcv:act.eval x=cv at vx;cases vx;have hb:=hr.blk n _ hn;cases hb with
      |mp _ _ ces hh hl hv=>
       have hm:MEs K es ces.toList:=⟨by simpa using hl,fun i hi=>by simpa [Kg,Kf] using hv i hi⟩;have hfk:=cP K.w hks hkS ZM vi hm hfd;cases r with
       |none=>
        cases ok
        ·exact⟨z,zv,by simp[execOp,hop,Kv,hcv,run_underlying hu,bW hh,hck,hfk,hzr],vz,aAB⟩
        exact⟨_,_,by simp[execOp,hop,Kv,hcv,run_underlying hu,bW hh,hck,hfk,hzr],two _ _ false vz,aAB⟩
       |some j=>
        obtain⟨hj,_⟩:=rX hfd;have hvj:=(hm.2 j hj).2.1;cases ok
        ·exact⟨_,_,by simp[execOp,hop,Kv,hcv,run_underlying hu,bW hh,hck,hfk],hvj,aAB⟩
        exact⟨_,_,by simp[execOp,hop,Kv,hcv,run_underlying hu,bW hh,hck,hfk],two _ _ true hvj,aAB⟩
     exact aAB.elim
    exact aAB.elim
   exact aAB.elim
  simp at hl
 case h_26 t x i hop=>
  split at hl
  ·rename_i hu;obtain⟨lx,hx,hl⟩:=Ka.1 hl;obtain⟨li,hi,rfl⟩:=Kb.1 hl;have vx:=aE hx hs;have vi:=aE hi hs;simp only[aR.sem] at aAB;split at aAB
   ·rename_i e1 _ _;cases e1
   ·rename_i s ik j _ he hj;obtain⟨h0,h1,hR⟩:=aAB;rw[he] at vx;rw[hj] at vi;generalize hcv:act.eval x=cv at vx;generalize hci:act.eval i=ci at vi;cases vi;cases vx;have hlt:j.toNat<s.data.size:=by have:s.size=s.data.size:=rfl;omega
    have hg:s[j.toNat]?=some (s.data.toList.getD j.toNat 0):=by
     rw[Kf,KM (by simpa using hlt)];exact getElem?_pos s j.toNat hlt
    refine⟨_,_,?_, .int .u8 _,hR⟩;simp only[execOp,hop,hcv,hci,Qf,asIntOf,Kd,Ke,Kc,run_underlying hu,if_pos h0,hg]
   exact aAB.elim
  ·rename_i n e hu;split at hl
   ·rename_i hk;obtain⟨lx,hx,hl⟩:=Ka.1 hl;obtain⟨li,hi,rfl⟩:=Kb.1 hl;have vx:=aE hx hs;have vi:=aE hi hs;simp only[aR.sem] at aAB;split at aAB
    ·rename_i n' cs ik j en he hj;injection en with en;subst en;obtain⟨h0,⟨h1,h2⟩,hR⟩:=aAB;rw[he] at vx;rw[hj] at vi;generalize hcv:act.eval x=cv at vx;generalize hci:act.eval i=ci at vi;cases vi;cases vx with
     |agg _ ccs hlen hvs=>
      have hjl:j.toNat<ccs.size:=or;have hp:=nZ hk K.w ccs (fun q=>ccs.getD q Kk) (j.toNat*Sh.leaf.size) (by simp only[Sh.size];omega) (fun q _=>rfl);simp only[Sh.size,Qj,aAX,KH] at hp;refine⟨_,_,?_,hvs j.toNat or,hR⟩;simp only[execOp,hop,hcv,hci,Qf,asIntOf,Kd,Ke,Kc,run_underlying hu,if_pos (And.intro h0 h1),dL hk,hp,aAX,Sh.size,Qj,KH]
    ·rename_i e1 _ _;cases e1
    exact aAB.elim
   simp at hl
  simp at hl
 case h_27=>simp at hl
end
def Ker.aAG(K:Ker)(a b m:Nat):Ker:=
 {K with mu:=fun n=>if n=a then b else K.mu n,imm:=fun c=>if c=b then m else K.imm c,tp:=fun n=>if n=a then m else K.tp n,live:=fun n=>n=a∨K.live n}
theorem Ker.aAR(K:Ker){a b m:Nat}(ha:¬K.live a)(hm:K.imm b≤m):K.le (K.aAG a b m) where
 live n hn:= .inr hn
 mu n hn:=by have:n≠a:=fun e=>ha (e▸hn);simp[Ker.aAG,this]
 tp n hn:=by have:n≠a:=fun e=>ha (e▸hn);simp[Ker.aAG,this]
 fro:=rfl
 imm c _:=by
  show _≤(if c=b then m else K.imm c);split
  ·rename_i e;subst e;exact hm
  exact KB _
 cell _ _ _ _:=rfl
 shape _ _:=rfl
 below:=nL.refl _ _
theorem Hp.aC2(h:Hp)(n:Nat):(h.del n).le h:=fun m b e=>by
 unfold Hp.del at e;split at e
 ·simp at e
 exact e
theorem Rel.aAG{K:Ker}{h:Hp}(r:Rel K h){n:Nat}{b0:Blk}(hn:h n=some b0){a m:Nat}(ha:¬K.live a)(hm:K.imm (K.mu n)≤m){b1:Blk}(hb:BR (K.aAG a (K.mu n) m) a b1):Rel (K.aAG a (K.mu n) m) ((h.del n).set a b1):=by
 have hle:=K.aAR (b:=K.mu n) ha hm;have hd:∀x bb,(h.del n) x=some bb→x≠n∧h x=some bb:=fun x bb e=>by
  unfold Hp.del at e;split at e
  ·simp at e
  rename_i hx;exact⟨hx,e⟩
 have aCk:∀x bb,(h.del n) x=some bb→K.mu x≠K.mu n:=fun x bb e em=>(hd x bb e).1 (r.inj x n bb b0 (hd x bb e).2 hn em);have aMp:(K.aAG a (K.mu n) m).mu a=K.mu n:=by simp[Ker.aAG]
 refine⟨?_,?_,?_,?_,r.size.re rfl rfl⟩
 ·intro x bb e;unfold Hp.set at e;split at e
  ·rename_i hx;exact .inl hx
  exact .inr (r.lt x bb (hd x bb e).2)
 ·intro x bb e;unfold Hp.set at e;split at e
  ·rename_i hx;rw[hx,aMp];exact r.base n b0 hn
  rw[hle.mu x (r.lt x bb (hd x bb e).2)];exact r.base x bb (hd x bb e).2
 ·intro x bb e;unfold Hp.set at e;split at e
  ·rename_i hx;injection e with e;rw[hx,←e];exact hb
  refine(r.blk x bb (hd x bb e).2).mono hle (r.lt x bb (hd x bb e).2) rfl ?_;show(if K.mu x=K.mu n then m else K.imm (K.mu x))=_;rw[if_neg (aCk x bb e)]
 intro x y b1' b2' e1 e2 em;unfold Hp.set at e1 e2;split at e1<;>split at e2
 ·omega
 ·rename_i h1 h2;rw[h1,aMp,hle.mu y (r.lt y b2' (hd y b2' e2).2)] at em;exact absurd em.symm (aCk y b2' e2)
 ·rename_i h1 h2;rw[h2,aMp,hle.mu x (r.lt x b1' (hd x b1' e1).2)] at em;exact absurd em (aCk x b1' e1)
 rw[hle.mu x (r.lt x b1' (hd x b1' e1).2),hle.mu y (r.lt y b2' (hd y b2' e2).2)] at em;exact r.inj x y b1' b2' (hd x b1' e1).2 (hd y b2' e2).2 em
def dT(P:Program)(o:Oper)(act:Act)(K:Ker)(a:Nat)(R:V→Hp→Prop):Prop:=
 ∃nx cv K' v h',(execOp act.eval o).run P K.w= .ok nx K'.w∧(nx= .value cv∨nx= .skip∧cv=Kk)∧K.le K'∧(∀n,K'.live n→K.live n∨n=a)∧VR K' v cv∧Rel K' h'∧R v h'
theorem sZ.toM{P:Program}{o:Oper}{act:Act}{K:Ker}{a:Nat}{h:Hp}{R:V→Hp→Prop}(hr:Rel K h)(y:sZ P o act K fun v=>R v h):dT P o act K a R:=by
 obtain⟨cv,v,h1,h2,h3⟩:=y;exact⟨_,cv,K,v,h,h1, .inl rfl, .refl K,fun n hn=> .inl hn,h2,hr,h3⟩
theorem qA{P:Program}{K:Ker}{h:Hp}(hr:Rel K h){a:Nat}(ha:¬K.live a){k:Sh}{v:V}{cv:Value}(hv:VR K v cv)(hf:v.fits k=true)(e:TypeId):
 ∃K',(newVar e cv).run P K.w= .ok ⟨K.w.heap.size,0,none⟩ K'.w∧K.le K'∧(∀n,K'.live n→K.live n∨n=a)∧VR K' (.ptr a k 0 0) (.pointer (some ⟨K.w.heap.size,0,none⟩))∧Rel K' (h.set a (.arr k [v])):=by
 obtain⟨c1,c2,c3,c4⟩:=hv.cells hf;have hle:=K.aAw a ha (.cells cv.cells e) 0;have hmu:(K.push a (.cells cv.cells e) 0).mu a=K.w.heap.size:=by simp[Ker.push]
 refine⟨K.push a (.cells cv.cells e) 0,rfl,hle,fun n hn=>hn.symm,?_,?_⟩
 ·have:=VR.ptr (K:=K.push a (.cells cv.cells e) 0) a k 0 0 (.inl rfl);rw[hmu] at this;simpa using this
 refine hr.set_push ha _ _ (.arr k [v] cv.cells e ?_ ?_ ?_ ?_ ?_)
 ·rw[hmu];exact cE _ _
 ·simp[c2]
 ·rw[hmu];simp[Ker.push]
 ·simpa using hf
 intro i hi j hj;have:i=0:=by simpa using hi
 subst this;simpa using(c3 j hj).mono hle
theorem iE{K:Ker}{h:Hp}(hr:Rel K h){a:Nat}(ha:¬K.live a){k:Sh}{es:List V}(hf:∀e∈es,e.fits k=true)(c:Array Value)(e:TypeId)(cap:Nat)(hcap:es.length≤cap)(hsz:cap*k.size≤c.size)
 (hv:∀i,i<es.length→∀j,j<k.size→VR K ((es.getD i V.undef).cell j) (c.getD (i*k.size+j) Kk)):
 ∃K',K'.w=K.w.alloc (.cells c e)∧K.le K'∧(∀n,K'.live n→K.live n∨n=a)∧VR K' (.sl k (.tok a) es) (.slice (some ⟨K.w.heap.size,0,none⟩) es.length cap)∧Rel K' (h.set a .tip):=by
 have hle:=K.aAw a ha (.cells c e) (es.length*k.size);have hmu:(K.push a (.cells c e) (es.length*k.size)).mu a=K.w.heap.size:=by simp[Ker.push]
 have hlen:es.length*k.size≤cap*k.size:=Ks _ hcap;refine⟨K.push a (.cells c e) (es.length*k.size),rfl,hle,fun n hn=>hn.symm,?_,?_⟩
 ·refine .sl k (.tok a) es K.w.heap.size 0 cap (fun j=>c.getD j Kk) ?_ hf ?_ ?_ (fun i hi j hj=>(hv i hi j hj).mono hle) hcap Zm Zm ?_
  ·show _<(K.w.alloc _).heap.size;rw[rC];omega
  ·intro j hj;show(K.w.alloc _).cell? _=_;simp only[World.cell?,cE,Nat.zero_add];rw[Kg,KL or];rfl
  ·intro j hj;refine .inr ?_;show 0+j<(if K.w.heap.size=K.w.heap.size then es.length*k.size else _);rw[if_pos rfl];omega
  intro n hn;injection hn with hn;subst hn;refine⟨.inl rfl, .inr ⟨hmu,?_,e,c.size,?_,by simpa using hsz⟩⟩
  ·simp[Ker.push]
  show(K.w.alloc _).shape? _=_;simp only[KQ,cE]
 refine hr.set_push ha _ _ (.tip c e ?_ ?_ ?_)
 ·rw[hmu];exact cE _ _
 ·rw[hmu];simp[Ker.push]
 have:(K.push a (.cells c e) (es.length*k.size)).tp a=es.length*k.size:=by simp[Ker.push]
 omega
end Go.Proofs.YtgbiopfghdilnaaGreatDoor
