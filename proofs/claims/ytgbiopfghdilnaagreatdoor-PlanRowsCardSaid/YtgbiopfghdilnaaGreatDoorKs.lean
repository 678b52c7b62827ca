/-
Texts of this proof,one behind the other. No conditions.
-/
import Derived.Test.YtgbiopfghdilnaaGreatDoorKla
import Derived.Test.YtgbiopfghdilnaaGreatDoorKk
open Go.Proofs.YtgbiopfghdilnaaGreatDoor.Vl renaming v→Ka,aAA→Kd,aAK→Ke
open Go.Proofs.YtgbiopfghdilnaaGreatDoor.Hp renaming le_refl→Kb,set→Kc,same→Kf
open List renaming drop_eq_getElem_cons→Kg,take_of_length_le→Kh,map_append→Ki,take_succ_eq_append_getElem→Kj,mem_map→Kk,map_cons→Ko,map_nil→Kq,mem_cons→Ks,mem_singleton→Kt,drop_of_length_le→Ku,length_append→Kv,replicate_succ→Kz,replicate_zero→KA,nodup_append→KC,drop_length→KD,length_cons→KE,cons_append→KF,length_nil→KG,nil_append→KH,mem_cons_of_mem→KI,mem_cons_self→KJ,mem_append→KN,nodup_cons→KO,drop_zero→KR,drop→KW
open Nat renaming zero_le→Km,lt_or_ge→Kp,le_refl→Kw,reduceAdd→Kx,reduceSub→Ky,reduceLeDiff→KK,reduceEqDiff→KM,reduceLT→KU
open Prod renaming fst→KB
open Int renaming reduceToNat→KP
open Bool renaming not_false→KQ,not_true→KS
open Option renaming map→KV
open Nat renaming reduceAdd→jA,reduceSub→jB,reduceLT→jC,reduceLeDiff→jD,reduceEqDiff→jE
open Int renaming reduceToNat→jF,toNat_natCast→jG,natCast_add→jH,natCast_one→jI,natCast_zero→jJ
open List renaming length_map→jK,length_cons→jL,length_nil→jM,cons_append→jP
set_option linter.all false
set_option maxHeartbeats 8000000
namespace Go.Proofs.YtgbiopfghdilnaaGreatDoor
open Go.RowKit Go.Sort
attribute [local irreducible] IntKind.wrap
abbrev vls(o:Own)(l:List Vl):V:= .sl (.agg 3) o (l.map Ka)
abbrev TR:Type:=Own×List Vl
def TR.v(p:TR):V:=vls p.1 p.2
abbrev tps(o:Own)(l:List TR):V:= .sl .leaf o (l.map TR.v)
abbrev qH(l:List TR):List (List Vl):=l.map Prod.snd
def TR.ok(p:TR):Prop:=(p.1= .nil∧p.2=[])∨p.1= .free
def Rd(h:Hp)(v:V)(l:List Vl):Prop:=(∃o,v=vls o l)∨∃n tail,v= .rs n (.agg 3) 0 l.length∧h n=some (.arr (.agg 3) (l.map Ka++tail))
theorem De(l:List Vl)(tail:List V)(i:Nat)(h:i<l.length):(l.map Ka++tail).getD i (.tup [])=l[i].v:=by
 rw[List.getD_eq_getElem?_getD,List.getElem?_append_left (by simpa using h)];simp[h]
theorem Dq{α:Type}(c:α→α→Int)(a b:List α)(i:Nat)(h1:i<a.length)(h2:i<b.length)(h0:c a[i] b[i]=0):eV c (a.drop i) (b.drop i)=eV c (a.drop (i+1)) (b.drop (i+1)):=by
 rw[Kg h1,Kg h2];simp only[eV,orC,h0,if_true]
theorem yS(o1:Own)(a b:List Vl)(ha:a.length≤1000000000)(v2:V)(h:Hp)(hv:Rd h v2 b):aK Tryz.prog 64 [vls o1 a,v2, .fn (.func 65) [] []] h (.int .i64 (mB a b)):=by
 refine aH (fun L=>trivial) fun h' nx hh=>aB L.bDg fun hd=>?_;refine ZK ?_;have hal:(a.map Ka).length=a.length:=jK ..;refine aue hal ?_
 refine aO (fun i:Nat=>aD 39 0 [(0,vls o1 a),(1,v2),(2, .fn (.func 65) [] []),(11,vls o1 a),(12, .int .i64 a.length),(13, .int .i64 i)])
  (fun i hp nx1=>i≤a.length∧i≤b.length∧mB a b=mB (a.drop i) (b.drop i)∧nx≤nx1∧aS hp nx1∧Kf nx h' hp)
  (fun i=>a.length-i) 0 ⟨Km _,Km _,rfl,Kw _,hd,Hp.same.aAn⟩ (by simp only[WkL,aD,jH,jI,jJ,go_sem,reduceIte,jA,jB,jC,jD,reduceCtorEq,jE,jF]) ?_
 rintro i hp nx1 ⟨hi,hib,hcm,hnx,hdm,hsm⟩;generalize hQ:aV _ _ _ _ _=Q0;refine Zk ?_;rcases Kp i a.length with hlt|hge
 ·have hc:decide ((i:Int)<(a.length:Int))=true:=dct;have hw:IntKind.i64.wrap ((i:Int)+1)=((i+1:Nat):Int):=wrp;have hg:(a.map Ka).getD i (.tup [])= .agg [.int .i64 a[i].k, .int .i64 a[i].n, .str a[i].s]:=aJ Ka a i hlt;rcases Kp i b.length with hlb|hgb
  ·have hc2:decide ((b.length:Int)≤(i:Int))=false:=dcf;have hk:=fun h=>BU a[i] b[i] h;have hg2:(b.map Ka).getD i (.tup [])= .agg [.int .i64 b[i].k, .int .i64 b[i].n, .str b[i].s]:=aJ Ka b i hlb;obtain⟨c,hcc⟩:∃c,rh a[i] b[i]=c:=⟨_,rfl⟩;rw[hcc] at hk;have aAk:c≠0→mB a b=c:=fun h0=>by
    rw[hcm,Kg hlt,Kg hlb];simp only[mB,eV,orC,hcc,if_neg h0]
   rcases hv with⟨o2,rfl⟩|⟨n,tail,rfl,hn⟩
   case' inl=>have E:=e9 hc hw hal hg hlt hc2 (@jK Vl V) jG (e2 hg2 hlb)
   case' inr=>
    have hn1:hp n=some (.arr (.agg 3) (b.map Ka++tail)):=by rw[hsm n (hd _ _ (hh _ _ hn rfl))];exact hh _ _ hn rfl
    have hn2:n<nx1:=hdm _ _ hn1;have hg3:(b.map Ka++tail).getD i (.tup [])= .agg [.int .i64 b[i].k, .int .i64 b[i].n, .str b[i].s]:=De b tail i hlb;have hl3:(b.map Ka++tail).length=b.length+tail.length:=Zm;have hl4:i<b.length+tail.length:=or;have E:=e12 hc hw hal hg hlt hc2 (@jK Vl V) jG hn1 hn2 hg3 (e4 hlb hl3 hl4 Nat.zero_add)
   all_goals
    refine aue E ?_;refine iO rfl (hk _) rfl (aL _) ?_;refine Zn ?_;by_cases h0:c=0
    ·have hc3:(c != 0)=false:=bnf;refine aue hc3 ?_;rw[←hQ];refine aue hw ?_;exact aF (i+1) or ⟨hlt,hlb,by rw[hcm,mB,Dq rh a b i hlt hlb (by rw[hcc];exact h0)],or,dmo hdm,kep hsm⟩ (by simp only[WkL,aD,jH,jI,jJ,hw,go_sem,reduceIte,jA,jB,jC,jD,reduceCtorEq,jE,jF])
    have hc3:(c != 0)=true:=bnt;refine aue hc3 ?_;rw[←hQ];refine au ?_;exact aC h' (lef hd (hsm.le hd (Kb _))) ⟨by rw[aAk h0]<;>rfl,rfl⟩
  have hc2:decide ((b.length:Int)≤(i:Int))=true:=dct;have hl2:∃m:Nat,m=b.length:=⟨_,rfl⟩;have aAk:mB a b=1:=by
   rw[hcm,Kg hlt,Ku hgb];rfl
  rcases hv with⟨o2,rfl⟩|⟨n,tail,rfl,hn⟩
  all_goals
   refine aue (e8 hc hw hal hg hlt hc2 (@jK Vl V) jG) ?_;rw[←hQ];refine au ?_;exact aC h' (lef hd (hsm.le hd (Kb _))) ⟨by rw[aAk]<;>rfl,rfl⟩
 have hc:decide ((i:Int)<(a.length:Int))=false:=dcf;have hia:i=a.length:=or;have aAk:mB a b=if a.length<b.length then-1 else 0:=by
  rw[hcm,hia,KD];split
  ·rename_i k;rw[Kg k];rfl
  rw[Ku or];rfl
 by_cases hl:a.length<b.length
 ·have hc2:decide ((a.length:Int)<(b.length:Int))=true:=dct;rw[if_pos hl] at aAk;rcases hv with⟨o2,rfl⟩|⟨n,tail,rfl,hn⟩
  all_goals
   refine aue hc ?_;rw[←hQ];refine aue (e3 hc2 hal (@jK Vl V)) ?_;exact aC h' (lef hd (hsm.le hd (Kb _))) ⟨by rw[aAk]<;>rfl,rfl⟩
 have hc2:decide ((a.length:Int)<(b.length:Int))=false:=dcf;rw[if_neg hl] at aAk;rcases hv with⟨o2,rfl⟩|⟨n,tail,rfl,hn⟩
 all_goals
  refine aue hc ?_;rw[←hQ];refine aue (e3 hc2 hal (@jK Vl V)) ?_;exact aC h' (lef hd (hsm.le hd (Kb _))) ⟨by rw[aAk]<;>rfl,rfl⟩
theorem BW(o1:Own)(a b:List Vl)(ha:a.length≤1000000000)(v2:V)(h:Hp)(hv:Rd h v2 b):aK Tryz.prog 26 [vls o1 a,v2] h (.int .i64 (mB a b)):=by
 refine aH (fun L=>trivial) fun h' nx hh=>aB L.bER fun hd=>?_;refine ZK ?_;refine au ?_;refine aI (yS o1 a b ha v2 h hv) rfl hh ?_;refine Zn ?_;refine au ?_;exact aC h' (leo hd) ⟨rfl,rfl⟩
theorem qA(a b:Vl):veq (.plain (.agg 3) [.int, .int, .str]) a.v b.v=some (decide (a=b)):=by
 have e:(decide (a=b))=(decide (a.k=b.k)&&(decide (a.n=b.n)&&decide (a.s=b.s))):=by
  rw[Bool.eq_iff_iff];cases a;cases b;simp
 rw[e];have e1:(a.k==b.k)=decide (a.k=b.k):=rfl;have e2:(a.n==b.n)=decide (a.n=b.n):=rfl;simp[Ka,yh,V.fits,V.aAE,gY,hZ,dN,e1,e2]
theorem tC(o1 o2:Own)(a b:List Vl)(ha:a.length≤1000000000)(h:Hp):aK Tryz.prog 29 [vls o1 a,vls o2 b] h (.bool (decide (a=b))):=by
 refine aH (fun L=>trivial) fun h' nx hh=>aB L.bEN fun hd=>?_;refine ZK ?_;by_cases hl:a.length=b.length
 ·have cl:((a.length:Int) != (b.length:Int))=false:=bnf;refine aue (e2 cl (@jK Vl V)) ?_;refine aO (fun i:Nat=>aD 26 0 [(0,vls o1 a),(1,vls o2 b),(12, .int .i64 a.length),(13, .int .i64 i)]) (fun i hp nx1=>i≤a.length∧nx≤nx1∧aS hp nx1∧Kf nx h' hp∧a.take i=b.take i) (fun i=>a.length-i) 0 ⟨Km _,Kw _,hd,Hp.same.aAn,rfl⟩ (by simp only[WkL,aD,jH,jI,jJ,go_sem,reduceIte,jA,jB,jC,jD,reduceCtorEq,jE,jF]) ?_;rintro i hp nx1 ⟨hi,hnx,hdm,hsm,htk⟩;generalize hQ:aV _ _ _ _ _=Q0;refine Zk ?_;rcases Kp i a.length with hlt|hge
  ·have hc:decide ((i:Int)<(a.length:Int))=true:=dct;have hw:IntKind.i64.wrap ((i:Int)+1)=((i+1:Nat):Int):=wrp;have hlb:i<b.length:=or;have hg:=aJ Ka a i hlt;have hg2:=aJ Ka b i hlb;have hv:=qA a[i] b[i];have E:=e9 hc hw hg hg2 hv hlt hlb (@jK Vl V) (e2 jG Kd);cases he:decide (a[i]=b[i]) with
   |true=>
    have he':a[i]=b[i]:=of_decide_eq_true he;refine aue (e4 E he KS KQ) ?_;rw[←hQ];exact aF (i+1) or ⟨hlt,or,dmo hdm,kep hsm,by rw[Kj hlt,Kj hlb,htk,he']⟩ (by simp only[WkL,aD,jH,jI,jJ,hw,go_sem,reduceIte,jA,jB,jC,jD,reduceCtorEq,jE,jF])
   |false=>
    have he':a[i]≠b[i]:=of_decide_eq_false he;refine aue (e4 E he KS KQ) ?_;rw[←hQ];refine au ?_;refine aC h' (lef hd (hsm.le hd (Kb _))) ⟨?_,rfl⟩;have:a≠b:=fun e=>he' (by subst e;rfl);simp only[go_sem,reduceIte,jA,jB,jC,jD,reduceCtorEq,jE,jF];rw[decide_eq_false this]
  have hc:decide ((i:Int)<(a.length:Int))=false:=dcf;refine aue hc ?_;rw[←hQ];refine au ?_;refine aC h' (lef hd (hsm.le hd (Kb _))) ⟨?_,rfl⟩;have:a=b:=by rw[Kh or,Kh or] at htk;exact htk
  simp only[go_sem,reduceIte,jA,jB,jC,jD,reduceCtorEq,jE,jF];rw[decide_eq_true this]
 have cl:((a.length:Int) != (b.length:Int))=true:=bnt;refine aue (e2 cl (@jK Vl V)) ?_;refine aC h' (leo hd) ⟨?_,rfl⟩;have:a≠b:=fun e=>hl (by rw[e]);simp only[go_sem,reduceIte,jA,jB,jC,jD,reduceCtorEq,jE,jF];rw[decide_eq_false this]
def nn(n:Int):List Vl→Option Int
 | []=>some n
 |x::l=>if 2000<IntKind.i64.wrap (n+(x.s.size:Int)) then none else nn (IntKind.i64.wrap (n+(x.s.size:Int))) l
def zQ(n:Int):List (List Vl)→Bool
 | []=>false
 |t::l=>if 50<t.length then true else match nn n t with
  |none=>true
  |some m=>zQ m l
theorem nm:∀(l:List (List Vl)) (n:Int),zQ n l=false→∀t∈l,t.length≤50
 | [],_,_=>Zm
 |t::l,n,h=>by
  unfold zQ at h;split at h
  ·cases h
  rename_i h1;split at h
  ·cases h
  rename_i m _;intro q hq;rcases Ks.1 hq with rfl|hq
  ·omega
  exact nm l m h q hq
theorem CJ(o:Own)(l:List TR)(hl:l.length≤1000000000)(h:Hp):aK Tryz.prog 20 [tps o l] h (.bool (zQ 0 (qH l))):=by
 refine aH (fun L=>trivial) fun h' nx hh=>aB L.bE3 fun hd=>?_;refine ZK ?_;refine aue (@jK TR V) ?_;refine aO (fun q:Nat×Int=>aD 32 0 [(3, .int .i64 q.2),(8,tps o l),(9, .int .i64 l.length),(10, .int .i64 q.1)]) (fun q hp nx1=>q.1≤l.length∧nx≤nx1∧aS hp nx1∧Kf nx h' hp∧zQ 0 (qH l)=zQ q.2 (qH (l.drop q.1))) (fun q=>l.length-q.1) (0,0) ⟨Km _,Kw _,hd,Hp.same.aAn,rfl⟩ (by simp only[WkL,aD,jH,jI,jJ,go_sem,reduceIte,jA,jB,jC,jD,reduceCtorEq,jE,jF]) ?_;rintro⟨i,n⟩ hp nx1 ⟨hi,hnx,hdm,hsm,hto⟩;generalize hQ:aV _ _ _ _ _=Q0;dsimp only at hi hto;refine Zk ?_;have hle:=hsm.le hd (Kb _);rcases Kp i l.length with hlt|hge
 ·have hc:decide ((i:Int)<(l.length:Int))=true:=dct;have hw:IntKind.i64.wrap ((i:Int)+1)=((i+1:Nat):Int):=wrp;obtain⟨p,hpq⟩:∃p,l[i]=p:=⟨_,rfl⟩;have hg:(l.map TR.v).getD i (.tup [])=vls p.1 p.2:=by rw[aJ TR.v l i hlt,hpq];rfl
  have hdr:qH (l.drop i)=p.2::qH (l.drop (i+1)):=by rw[Kg hlt,hpq];rfl
  rw[hdr,zQ] at hto;by_cases aCL:50<p.2.length
  ·have cl:decide ((50:Int)<(p.2.length:Int))=true:=dct;rw[if_pos aCL] at hto;refine aue (e8 hc hw hg hlt (@jK TR V) (@jK Vl V) jG cl) ?_;rw[←hQ];refine au ?_;refine aC h' (lef hd hle) ⟨?_,rfl⟩;simp only[hto,go_sem,reduceIte,jA,jB,jC,jD,reduceCtorEq,jE,jF]
  have cl:decide ((50:Int)<(p.2.length:Int))=false:=dcf;rw[if_neg aCL] at hto;refine aue (e8 hc hw hg hlt (@jK TR V) (@jK Vl V) jG cl) ?_;refine aO (fun q:Nat×Int=>aD 32 0 [(3, .int .i64 q.2),(8,tps o l),(9, .int .i64 l.length),(10, .int .i64 i),(17,vls p.1 p.2),(18, .int .i64 p.2.length),(19, .int .i64 q.1)]) (fun q hp nx2=>q.1≤p.2.length∧nx≤nx2∧aS hp nx2∧Kf nx h' hp∧nn n p.2=nn q.2 (p.2.drop q.1)) (fun q=>p.2.length-q.1) (0,n) ⟨Km _,hnx,hdm,hsm,rfl⟩ (by simp only[WkL,aD,jH,jI,jJ,go_sem,reduceIte,jA,jB,jC,jD,reduceCtorEq,jE,jF]) ?_;rintro⟨j,m⟩ hp2 nx2 ⟨hj,aEr,aBX,aAj,aEj⟩;generalize hQ2:aV _ _ _ _ _=Q2;dsimp only at hj aEj;refine Zk ?_;have aAb:=aAj.le hd (Kb _);rcases Kp j p.2.length with hlj|hgj
  ·have hcj:decide ((j:Int)<(p.2.length:Int))=true:=dct;have hwj:IntKind.i64.wrap ((j:Int)+1)=((j+1:Nat):Int):=wrp;have hgj:(p.2.map Ka).getD j (.tup [])= .agg [.int .i64 p.2[j].k, .int .i64 p.2[j].n, .str p.2[j].s]:=aJ Ka p.2 j hlj;rw[Kg hlj,nn] at aEj;cases cb:decide (2000<IntKind.i64.wrap (m+(p.2[j].s.size:Int))) with
   |true=>
    rw[if_pos (of_decide_eq_true cb)] at aEj;rw[aEj] at hto;refine aue (e7 hcj hwj hgj hlj (@jK Vl V) jG cb) ?_;rw[←hQ2,←hQ];refine au ?_;refine aC h' (lef hd aAb) ⟨?_,rfl⟩;simp only[hto,go_sem,reduceIte,jA,jB,jC,jD,reduceCtorEq,jE,jF]
   |false=>
    rw[if_neg (of_decide_eq_false cb)] at aEj;refine aue (e7 hcj hwj hgj hlj (@jK Vl V) jG cb) ?_;rw[←hQ2];exact aF (j+1,_) Zw ⟨hlj,or,dmo aBX,kep aAj,aEj⟩ (by simp only[WkL,aD,jH,jI,jJ,hwj,go_sem,reduceIte,jA,jB,jC,jD,reduceCtorEq,jE,jF])
  have hcj:decide ((j:Int)<(p.2.length:Int))=false:=dcf;rw[Ku hgj,nn] at aEj;rw[aEj] at hto;dsimp only at hto;refine aue hcj ?_;rw[←hQ2];clear hQ2 Q2;refine aue hw ?_;rw[←hQ];exact aF (i+1,m) Zw ⟨hlt,or,aBX,aAj,hto⟩ (by simp only[WkL,aD,jH,jI,jJ,hw,go_sem,reduceIte,jA,jB,jC,jD,reduceCtorEq,jE,jF])
 have hc:decide ((i:Int)<(l.length:Int))=false:=dcf;rw[Ku hge] at hto;refine aue hc ?_;rw[←hQ];refine au ?_;refine aC h' (lef hd hle) ⟨?_,rfl⟩;rw[hto];rfl
def oU:Vl:=⟨0,0,⟨#[]⟩⟩
def bY(t:Tr)(l:List Tr):Vl×Int:=
 if t.x.size=0 then (if dL t.w=true then (t.w,0) else (oU,2))
 else match lkB t.x l with
  |some w=>if dL w=true then (w,0) else (oU,13)
  |none=>(oU,13)
theorem vB(t:Tr)(l:List Tr)(n:Nat)(es:List ME)(c:Nat)(h:Hp)(hm:h n=some (.mp es c))(he:aj es l):aK Tryz.prog 62 [t.v, .map n] h (.tup [(bY t l).1.v,eF (bY t l).2]):=by
 refine aH (fun L=>⟨Ke L _,eU L _,trivial⟩) fun h' nx hh=>aB L.bDi fun hd=>?_;refine ZK ?_;have hn1:=hh _ _ hm rfl;have hn2:n<nx:=hd _ _ hn1;have h0:=vI t.x;unfold bY;by_cases h1:t.x.size=0
 ·have g1:decide (t.x.size=0)=true:=dct;rw[if_pos h1];have C1:∀h,aK Tryz.prog 54 [.agg [.int .i64 t.w.k, .int .i64 t.w.n, .str t.w.s]] h (.bool (dL t.w)):=fun h=>lD t.w h;cases k:dL t.w with
  |true=>
   rw[k] at C1;refine aue (e3 Tr.v.eq_1 h0 g1) ?_;refine aP (by simp only[go_sem,reduceIte,jA,jB,jC,jD,reduceCtorEq,jE,jF]) h' (leo hd) ⟨?_,rfl⟩;refine Zn ?_;rfl
  |false=>
   rw[k] at C1;refine aue (e3 Tr.v.eq_1 h0 g1) ?_;refine aP (by simp only[go_sem,reduceIte,jA,jB,jC,jD,reduceCtorEq,jE,jF]) h' (leo hd) ⟨?_,rfl⟩;refine Zn ?_;rfl
 have g1:decide (t.x.size=0)=false:=dcf;rw[if_neg h1];have hx:=he t.x;cases k:lkB t.x l with
 |none=>
  rw[k] at hx;have hg0:lO true (.agg [.int .i64 0, .int .i64 0, .str ⟨#[]⟩]) es none= .tup [.agg [.int .i64 0, .int .i64 0, .str ⟨#[]⟩], .bool false]:=rfl;refine aue (e7 Tr.v.eq_1 h0 g1 hn1 hn2 hx hg0) ?_;refine aP (by simp only[go_sem,reduceIte,jA,jB,jC,jD,reduceCtorEq,jE,jF]) h' (leo hd) ⟨?_,rfl⟩;refine Zn ?_;rfl
 |some w=>
  rw[k] at hx;obtain⟨j,hj1,hj2,hj3⟩:=hx;have hg0:lO true (.agg [.int .i64 0, .int .i64 0, .str ⟨#[]⟩]) es (some j)= .tup [w.v, .bool true]:=by rw[←hj2];rfl
  have C1:=fun h=>lD w h;have hwf:=Kd w;simp only;cases k2:dL w with
  |true=>
   rw[k2] at C1;refine aue (e8 Tr.v.eq_1 h0 g1 hn1 hn2 hj1 hg0 hwf) ?_;refine aP (by simp only[hwf,bC hwf,go_sem,reduceIte,jA,jB,jC,jD,reduceCtorEq,jE,jF]) h' (leo hd) ⟨?_,rfl⟩;simp only[hwf,bC hwf,go_sem,reduceIte,jA,jB,jC,jD,reduceCtorEq,jE,jF];rfl
  |false=>
   rw[k2] at C1;refine aue (e8 Tr.v.eq_1 h0 g1 hn1 hn2 hj1 hg0 hwf) ?_;refine aP (by simp only[go_sem,reduceIte,jA,jB,jC,jD,reduceCtorEq,jE,jF]) h' (leo hd) ⟨?_,rfl⟩;refine Zn ?_;rfl
def kK(l:List Tr):List Vl→List Tr→List Vl×Int
 |acc,[]=>(acc,0)
 |acc,t::r=>if (bY t l).2≠0 then ([],(bY t l).2) else kK l (acc++[(bY t l).1]) r
def fU(a:Am)(l:List Tr):List Vl×Int:=if 6<a.l.length then ([],6) else kK l [] a.l
def okO(e:Int)(o:Own):Own:=if e=0 then o else .nil
theorem mV(l:List Tr)(acc:List Vl)(t:Tr)(r:List Tr):kK l acc (t::r)=if (bY t l).2≠0 then ([],(bY t l).2) else kK l (acc++[(bY t l).1]) r:=rfl
theorem ae(e:Int)(vs:List Vl)(L:Nat→Prop):(V.tup [.sl (.agg 3) (okO e .free) (vs.map Ka),eF e]).names L:=by
 refine⟨⟨?_,aT (fun x=>Ke L x) _⟩,eU L _,trivial⟩;intro n k;unfold okO at k;split at k<;>cases k
theorem jg(a:Am)(l:List Tr)(n:Nat)(es:List ME)(c:Nat)(h:Hp)(hm:h n=some (.mp es c))(he:aj es l):aK Tryz.prog 59 [a.v, .map n] h (.tup [.sl (.agg 3) (okO (fU a l).2 .free) ((fU a l).1.map Ka),eF (fU a l).2]):=by
 refine bK (fun L=>ae _ _ L) fun h' nx hh=>aB L.bDp fun hd=>?_;obtain⟨r,o,ts⟩:=a;refine ZK ?_;have hn1:=hh _ _ hm rfl;have hn2:n<nx:=hd _ _ hn1;unfold fU;dsimp only;by_cases h6:6<ts.length
 ·have g1:decide ((6:Int)<(ts.length:Int))=true:=dct;rw[if_pos h6];refine aue (e4 Am.v.eq_1 trs.eq_1 g1 (@jK Tr V)) ?_;refine aM _ (Kb _) ⟨?_,leo hd⟩;refine Zn ?_;rfl
 have g1:decide ((6:Int)<(ts.length:Int))=false:=dcf;rw[if_neg h6];refine aue (e4 Am.v.eq_1 trs.eq_1 g1 (@jK Tr V)) ?_;generalize hRC:kH (lwp Tryz.prog ((aR.ops L.aDQ).seq aR.ret)) _=RC
 refine aO (fun q:Nat×Nat×List Vl=>aD 42 0 [(1, .map n),(4, .sl (.agg 3) .nil []),(5, .nilIface),(6, .rs q.2.1 (.agg 3) 0 q.2.2.length),(21, .sl (.agg 4) o (ts.map Tr.v)),(22, .int .i64 ts.length),(23, .int .i64 q.1)])
  (fun q hp nx1=>q.1≤ts.length∧nx+1≤nx1∧aS hp nx1∧Kf nx h' hp∧(nx<q.2.1∧hp q.2.1=some (.arr (.agg 3) (q.2.2.map Ka)))∧kK l [] ts=kK l q.2.2 (ts.drop q.1)∧q.2.2.length≤q.1)
  (fun q=>ts.length-q.1) (0,nx+1,[]) ⟨Km _,Zw,by exact dmo hd,by exact kep Hp.same.aAn,⟨Zw,by simp only[Kq,go_sem,reduceIte,jA,jB,jC,jD,reduceCtorEq,jE,jF]⟩,rfl,Km _⟩ (by simp only[WkL,aD,jH,jI,jJ,jM,go_sem,reduceIte,jA,jB,jC,jD,reduceCtorEq,jE,jF]) ?_
 rintro⟨i,id,acc⟩ hp nx1 ⟨hi,hnx,hdm,hsm,⟨aHw,hid⟩,hmk,hlen⟩;generalize hQ:aV _ _ _ _ _=Q0;dsimp only at hi hid hmk hlen aHw;refine Zk ?_;have hle:=hsm.le hd (Kb _);have hme:hp n=some (.mp es c):=by rw[hsm n hn2];exact hn1
 have aDD:id<nx1:=hdm _ _ hid;rcases Kp i ts.length with hlt|hge
 ·have hc:decide ((i:Int)<(ts.length:Int))=true:=dct;have hg:=aJ Tr.v ts i hlt;have hw:IntKind.i64.wrap ((i:Int)+1)=((i+1:Nat):Int):=wrp;have hdr:ts.drop i=ts[i]::ts.drop (i+1):=Kg hlt;have hn3:n<nx1:=or;rw[hdr] at hmk;generalize ts[i]=T at hg hmk;have hTf:=Tr.aAA T;have hVf:=Kd (bY T l).1;refine aue (e9 hc hg hlt hme hn3 (@jK Tr V) jG hw hTf) ?_;refine aI (vB T l n es c _ (by simp only[hme,hn3,go_sem,reduceIte,jA,jB,jC,jD,reduceCtorEq,jE,jF]) he) rfl (aL _) ?_;refine Zn ?_;rw[mV] at hmk;by_cases hz:(bY T l).2=0
  ·rw[if_neg (by simp[hz])] at hmk;rw[hz];have hml:(acc.map Ka).length=acc.length:=jK ..;have htk:(acc.map Ka).take acc.length=acc.map Ka:=Kh Zm;have aD3:acc.length≤1000000:=or;refine aue (e9 AC hVf hw hid aDD hml htk aD3 hc) ?_;rw[←hQ];exact aF (i+1,nx1+5,acc++[(bY T l).1]) Zw ⟨hlt,or,dmo hdm,kep hsm,⟨Zw,by simp only[Ki,Ko,Kq,go_sem,reduceIte,jA,jB,jC,jD,reduceCtorEq,jE,jF]⟩,hmk,by dsimp only;rw[Kv];simp only[jL,jM];omega⟩ (by simp only[WkL,aD,jH,jI,jJ,Kv,jL,jM,go_sem,reduceIte,jA,jB,jC,jD,reduceCtorEq,jE,jF])
  rw[if_pos hz] at hmk;have hev:eF (bY T l).2= .iface 100 (.int .i64 (bY T l).2):=by unfold eF;rw[if_neg hz]
  refine aue (e2 hev hVf) ?_;rw[←hQ,←hRC];refine au ?_;refine aM _ (Kb _) ⟨?_,lef hd hle⟩;refine Zn ?_;rw[hmk];unfold okO;rw[if_neg hz,hev];rfl
 have hc:decide ((i:Int)<(ts.length:Int))=false:=dcf;refine aue hc ?_;rw[←hQ];refine au ?_;have hie:i=ts.length:=or;rw[hie,KD] at hmk;simp only[kK] at hmk;rw[←hRC];refine fX (lE (t:=6) (n:=id) (k:= .agg 3) (off:=0) (len:=acc.length) (es:=acc.map Ka) rfl hid Zm) ?_;have htk:(KW 0 (acc.map Ka)).take acc.length=acc.map Ka:=by rw[KR];exact Kh Zm
 rw[htk];refine au ?_;refine aM _ (Kb _) ⟨?_,?_⟩
 ·refine Zn ?_;rw[hmk];rfl
 refine fun m b e=>?_;have:=hd _ _ e;simp only[Hp.del];rw[if_neg or];exact hle m b e
theorem rY(x:ByteArray)(o:Own)(l:List Tr)(hl:l.length≤1000000)(h:Hp):aK Tryz.prog 73 [trs o l, .str x] h (match lkB x l with|some w=> .tup [w.v, .bool true]|none=> .tup [oU.v, .bool false]):=by
 have hnm:∀L,(match lkB x l with|some w=>V.tup [w.v, .bool true]|none=> .tup [oU.v, .bool false]).names L:=fun L=>by
  split
  ·exact⟨Ke L _,trivial,trivial⟩
  exact⟨Ke L _,trivial,trivial⟩
 refine aH hnm fun h' nx hh=>aB L.bDP fun hd=>?_;refine ZK ?_;refine aue (e2 trs.eq_1 (@jK Tr V)) ?_
 refine aO (fun i:Nat=>aD 26 0 [(0, .sl (.agg 4) o (l.map Tr.v)),(1, .str x),(4, .ptr nx (.agg 3) 0 0),(5, .bool false),(6, .int .i64 i)])
  (fun i hp nx1=>i≤l.length∧hp=h'.set nx (.arr (.agg 3) [.agg [.int .i64 0, .int .i64 0, .str ⟨#[]⟩]])∧nx<nx1∧lkB x l=lkB x (l.drop i))
  (fun i=>l.length-i) 0 ⟨Km _,rfl,Zw,rfl⟩ (by simp only[WkL,aD,jH,jI,jJ,go_sem,reduceIte,jA,jB,jC,jD,reduceCtorEq,jE,jF]) ?_
 rintro i hp nx1 ⟨hi,rfl,aBO,hlk⟩;generalize hQ:aV _ _ _ _ _=Q0;refine Zk ?_;rcases Kp i l.length with hlt|hge
 ·have hc:decide ((i:Int)<(l.length:Int))=true:=dct;have hg:=aJ Tr.v l i hlt;have hw:IntKind.i64.wrap ((i:Int)+1)=((i+1:Nat):Int):=wrp;have hdr:l.drop i=l[i]::l.drop (i+1):=Kg hlt;have hbe:=dN l[i].x x;rw[hdr] at hlk;simp only[lkB] at hlk;cases k:decide (l[i].x=x) with
  |true=>
   rw[k] at hbe;rw[if_pos (of_decide_eq_true k)] at hlk;refine aue (e8 hc hg hlt hbe Tr.v.eq_1 (@jK Tr V) jG aBO) ?_;rw[←hQ];refine au ?_;refine aP (by simp only[aBO,go_sem,reduceIte,jA,jB,jC,jD,reduceCtorEq,jE,jF]) h' (leo hd) ⟨?_,rfl⟩;simp only[aBO,go_sem,reduceIte,jA,jB,jC,jD,reduceCtorEq,jE,jF];rw[hlk];rfl
  |false=>
   rw[k] at hbe;rw[if_neg (of_decide_eq_false k)] at hlk;refine aue (e9 hc hg hlt hbe Tr.v.eq_1 (@jK Tr V) jG aBO hw) ?_;rw[←hQ];exact aF (i+1) or ⟨hlt,rfl,or,hlk⟩ (by simp only[WkL,aD,jH,jI,jJ,go_sem,reduceIte,jA,jB,jC,jD,reduceCtorEq,jE,jF])
 have hc:decide ((i:Int)<(l.length:Int))=false:=dcf;refine aue (e3 hc aBO (@jK Tr V)) ?_;rw[←hQ];refine aue (e2 hc aBO) ?_;rw[List.drop_eq_nil_of_le hge] at hlk;refine aP (by simp only[aBO,go_sem,reduceIte,jA,jB,jC,jD,reduceCtorEq,jE,jF]) h' (leo hd) ⟨?_,rfl⟩;simp only[aBO,go_sem,reduceIte,jA,jB,jC,jD,reduceCtorEq,jE,jF];rw[hlk];rfl
def smB(l:List Tr):Prop:=∀t∈l,t.w.s.size≤9223372036854775807
theorem Ey{l:List Tr}(h:smB l){x:ByteArray}{w:Vl}(hk:lkB x l=some w):w.s.size≤9223372036854775807:=by
 induction l with
 |nil=>cases hk
 |cons t r ih=>
  simp only[lkB] at hk;split at hk
  ·injection hk with hk;rw[←hk];exact h t KJ
  exact ih (fun t ht=>h t (KI _ ht)) hk
theorem oX(t:Tr)(ht:t.w.s.size≤9223372036854775807)(o:Own)(l:List Tr)(hl:l.length≤1000000)(hsm:smB l)(h:Hp):aK Tryz.prog 67 [t.v,trs o l] h (.tup [(bY t l).1.v, .int .i64 (bY t l).2]):=by
 refine aH (fun L=>⟨Ke L _,trivial,trivial⟩) fun h' nx hh=>aB L.bDd fun hd=>?_;refine ZK ?_;unfold bY;by_cases h1:t.x.size=0
 ·have g1:decide ((0:Int)<(t.x.size:Int))=false:=dcf;rw[if_pos h1];have C1:∀h,aK Tryz.prog 110 [.agg [.int .i64 t.w.k, .int .i64 t.w.n, .str t.w.s]] h (.bool (dL t.w)):=fun h=>iY t.w ht h;cases k:dL t.w with
  |true=>
   rw[k] at C1;refine aue (e2 Tr.v.eq_1 g1) ?_;refine aP (by simp only[go_sem,reduceIte,jA,jB,jC,jD,reduceCtorEq,jE,jF]) h' (leo hd) ⟨?_,rfl⟩;refine Zn ?_;try rfl
  |false=>
   rw[k] at C1;refine aue (e2 Tr.v.eq_1 g1) ?_;refine aP (by simp only[go_sem,reduceIte,jA,jB,jC,jD,reduceCtorEq,jE,jF]) h' (leo hd) ⟨?_,rfl⟩;refine Zn ?_;try rfl
 have g1:decide ((0:Int)<(t.x.size:Int))=true:=dct;rw[if_neg h1];have C2:=fun h=>rY t.x o l hl h;cases k:lkB t.x l with
 |none=>
  rw[k] at C2;simp only at C2;have hwz:=Kd oU;refine aue (e3 Tr.v.eq_1 g1 hwz) ?_;refine aP (by simp only[go_sem,reduceIte,jA,jB,jC,jD,reduceCtorEq,jE,jF]) h' (leo hd) ⟨?_,rfl⟩;refine Zn ?_;try rfl
 |some w=>
  rw[k] at C2;have C1:=fun h=>iY w (Ey hsm k) h;have hwf:=Kd w;simp only at C2⊢;cases k2:dL w with
  |true=>
   rw[k2] at C1;refine aue (e3 Tr.v.eq_1 g1 hwf) ?_;refine aP (by simp only[hwf,bC hwf,go_sem,reduceIte,jA,jB,jC,jD,reduceCtorEq,jE,jF]) h' (leo hd) ⟨?_,rfl⟩;simp only[hwf,bC hwf,go_sem,reduceIte,jA,jB,jC,jD,reduceCtorEq,jE,jF];try rfl
  |false=>
   rw[k2] at C1;refine aue (e3 Tr.v.eq_1 g1 hwf) ?_;refine aP (by simp only[go_sem,reduceIte,jA,jB,jC,jD,reduceCtorEq,jE,jF]) h' (leo hd) ⟨?_,rfl⟩;refine Zn ?_;try rfl
theorem zJ(e:Int)(vs:List Vl)(L:Nat→Prop):(V.tup [.sl (.agg 3) (okO e (frO vs)) (vs.map Ka), .int .i64 e]).names L:=by
 refine⟨⟨?_,aT (fun x=>Ke L x) _⟩,trivial,trivial⟩;intro n k;unfold okO at k;split at k
 ·unfold frO at k;split at k<;>cases k
 cases k
theorem ef(a:Am)(o2:Own)(l:List Tr)(hl:l.length≤1000000)(hsm:smB l)(hts:∀t∈a.l,t.w.s.size≤9223372036854775807)(h:Hp):aK Tryz.prog 70 [a.v,trs o2 l] h (.tup [.sl (.agg 3) (okO (fU a l).2 (frO (fU a l).1)) ((fU a l).1.map Ka), .int .i64 (fU a l).2]):=by
 refine bK (fun L=>zJ _ _ L) fun h' nx hh=>aB L.bDa fun hd=>?_;obtain⟨r,o,ts⟩:=a;refine ZK ?_;unfold fU;dsimp only;by_cases h6:6<ts.length
 ·have g1:decide ((6:Int)<(ts.length:Int))=true:=dct;rw[if_pos h6];refine aue (e4 Am.v.eq_1 trs.eq_1 g1 (@jK Tr V)) ?_;refine aM _ (Kb _) ⟨?_,leo hd⟩;refine Zn ?_;rfl
 have g1:decide ((6:Int)<(ts.length:Int))=false:=dcf;rw[if_neg h6];refine aue (e4 Am.v.eq_1 trs.eq_1 g1 (@jK Tr V)) ?_
 refine aO (fun q:Nat×Own×List Vl=>aD 39 0 [(1,trs o2 l),(2, .ptr nx (.agg 2) 0 0),(4, .sl (.agg 3) .nil []),(5, .int .i64 0),(6, .sl (.agg 3) q.2.1 (q.2.2.map Ka)),(7, .int .i64 q.1)])
  (fun q hp nx1=>q.1≤ts.length∧nx+1≤nx1∧aS hp nx1∧Kf nx h' hp∧hp nx=some (.arr (.agg 2) [.agg [.str r, .sl (.agg 4) o (ts.map Tr.v)]])∧Acc hp (nx+1) q.2.1 (q.2.2.map Ka)∧kK l [] ts=kK l q.2.2 (ts.drop q.1)∧q.2.2.length≤q.1)
  (fun q=>ts.length-q.1) (0, .nil,[]) ⟨Km _,Zw,by exact dmo hd,by exact kep Hp.same.aAn,by simp only[go_sem,reduceIte,jA,jB,jC,jD,reduceCtorEq,jE,jF], .inl ⟨rfl,rfl⟩,rfl,Km _⟩ (by simp only[WkL,aD,jH,jI,jJ,trs,Kq,go_sem,reduceIte,jA,jB,jC,jD,reduceCtorEq,jE,jF]) ?_
 rintro⟨i,oo,ac⟩ hp nx1 ⟨hi,hnx,hdm,aAj,hbx,aAM,hmk,hlen⟩;generalize hQ:aV _ _ _ _ _=Q0;dsimp only at hi aAM hmk hlen;refine Zk ?_;have hle:=aAj.le hd (Kb _);have n1:nx<nx1:=or;rcases Kp i ts.length with hlt|hge
 ·have hc:decide ((i:Int)<(ts.length:Int))=true:=dct;have hg:=aJ Tr.v ts i hlt;have hw:IntKind.i64.wrap ((i:Int)+1)=((i+1:Nat):Int):=wrp;have hdr:ts.drop i=ts[i]::ts.drop (i+1):=Kg hlt;have aH2:=hts ts[i] (List.getElem_mem _);rw[hdr] at hmk;generalize ts[i]=T at hg hmk aH2;have hTf:=Tr.aAA T;have hVf:=Kd (bY T l).1;have C1:∀h:Hp,aK Tryz.prog 67 [T.v, .sl (.agg 4) o2 (l.map Tr.v)] h (.tup [(bY T l).1.v, .int .i64 (bY T l).2]):=fun h=>oX T aH2 o2 l hl hsm h;have aD3:ac.length≤1000000:=or;have aEI:∀H:Hp,H.aA7 oo nx=H nx:=fun H=>gS fun id e=>by have:=aAM.ge id e;omega
  rw[mV] at hmk;by_cases hz:(bY T l).2=0
  ·rw[if_neg (by simp[hz])] at hmk;rw[hz] at C1;have z0:((0:Int) != 0)=false:=rfl;refine aue (e12 hc hg hlt n1 hbx (@jK Tr V) jG hw hTf hVf z0 (e4 aEI aD3 (@jK Vl V) trs.eq_1)) ?_;rw[←hQ];exact aF (i+1,_,ac++[(bY T l).1]) Zw ⟨hlt,or,dmo hdm,rC aAj aAM,by simp only[aEI,hbx,n1,go_sem,reduceIte,jA,jB,jC,jD,reduceCtorEq,jE,jF],by dsimp only;rw[Ki];exact Acc.new _ Zm or,hmk,by dsimp only;rw[Kv];simp only[jL,jM];omega⟩ (by simp only[WkL,aD,jH,jI,jJ,trs,Ki,Ko,Kq,go_sem,reduceIte,jA,jB,jC,jD,reduceCtorEq,jE,jF])
  rw[if_pos hz] at hmk;have z0:((bY T l).2 != 0)=true:=bnt hz;refine aue (e12 hc hg hlt n1 hbx (@jK Tr V) jG hTf hVf z0 aD3 trs.eq_1) ?_;rw[←hQ];refine au ?_;refine aM _ (Kb _) ⟨?_,lef hd hle⟩;refine Zn ?_;rw[hmk];unfold okO;rw[if_neg hz];rfl
 have hc:decide ((i:Int)<(ts.length:Int))=false:=dcf;refine aue (e4 hc n1 hbx (@jK Tr V)) ?_;rw[←hQ];refine au ?_;have hie:i=ts.length:=or;rw[hie,KD] at hmk;simp only[kK] at hmk;refine aM _ (Kb _) ⟨?_,hle⟩;refine Zn ?_;rw[hmk];show _=V.tup [.sl (.agg 3) (frO ac) (ac.map Ka), .int .i64 0];rcases qN aAM with⟨rfl,e⟩|⟨id,rfl,e⟩<;>rw[e]<;>rfl
structure EE where
 x:ByteArray
 w:Vl
 b:Nat
def EE.me(e:EE):ME:=⟨.str e.x,e.w.v,e.b⟩
def EE.p(e:EE):ByteArray×Vl:=(e.x,e.w)
def A4(es:List ME)(c:Nat)(L:List EE):Prop:=es=L.map EE.me∧(L.map EE.b).Nodup∧∀e∈L,e.b<c
def lkP(x:ByteArray):List (ByteArray×Vl)→Option Vl
 | []=>none
 |a::r=>if a.1=x then some a.2 else lkP x r
theorem Bx(x:ByteArray)(a:ByteArray×Vl):∀l,lkP x (l++[a])=(match lkP x l with
 |some w=>some w
 |none=>if a.1=x then some a.2 else none)
 | []=>by simp[lkP]
 |b::l=>by
  simp only[jP,lkP];split
  ·rfl
  exact Bx x a l
theorem Ew{x:ByteArray}:∀{l:List (ByteArray×Vl)},(∀e∈l,e.1≠x)→lkP x l=none
 | [],_=>rfl
 |b::l,h=>by
  unfold lkP;rw[if_neg (h b KJ)];exact Ew fun e he=>h e (KI _ he)
theorem u9{x:ByteArray}:∀{l:List (ByteArray×Vl)},lkP x l=none→∀e∈l,e.1≠x
 |b::l,h,e,he=>by
  unfold lkP at h;split at h
  ·cases h
  rename_i hb;rcases Ks.1 he with rfl|he
  ·exact hb
  exact u9 h e he
def sV(es:List ME)(c:Nat)(l:List Tr):Prop:=∃L:List EE,A4 es c L∧(L.map EE.x).Nodup∧∀x,lkP x (L.map EE.p)=lkB x l
theorem Fe(x:ByteArray):∀L:List EE,(match lkP x (L.map EE.p) with
 |none=>bX (.plain .leaf [.str]) (.str x) (L.map EE.me)=some none
 |some w=>∃j,bX (.plain .leaf [.str]) (.str x) (L.map EE.me)=some (some j)∧((L.map EE.me).getD j default).v=w.v∧j<(L.map EE.me).length)
 | []=>rfl
 |e::L=>by
  have ih:=Fe x L;simp only[Ko,lkP,bX,EE.me,EE.p];rw[Bc];by_cases h:e.x=x
  ·rw[if_pos h,decide_eq_true h.symm];exact⟨0,rfl,rfl,Zm⟩
  rw[if_neg h,decide_eq_false (fun q=>h q.symm)];cases hk:lkP x (L.map EE.p) with
  |none=>
   rw[hk] at ih;show KV _ (bX _ _ (L.map EE.me))=_;rw[ih];rfl
  |some w=>
   rw[hk] at ih;obtain⟨j,h1,h2,h3⟩:=ih;refine⟨j+1,?_,h2,by simpa using h3⟩;show KV _ (bX _ _ (L.map EE.me))=_;rw[h1];rfl
theorem sV.at{es:List ME}{c:Nat}{l:List Tr}(h:sV es c l):aj es l:=fun x=>by
 obtain⟨L,⟨rfl,_,_⟩,_,hl⟩:=h;rw[←hl x];exact Fe x L
theorem EZ:sV [] 0 []:=⟨[],⟨rfl,Zm,Zm⟩,Zm,fun x=>rfl⟩
theorem A4.add{es:List ME}{c:Nat}{L:List EE}(h:A4 es c L)(x:ByteArray)(w:Vl):A4 (es++[⟨.str x,w.v,c⟩]) (c+1) (L++[⟨x,w,c⟩]):=by
 obtain⟨rfl,h2,h3⟩:=h;refine⟨by rw[Ki];rfl,?_,fun e he=>?_⟩
 ·rw[Ki,KC];refine⟨h2,Zm,fun a ha b hb=>?_⟩;obtain⟨e,he,rfl⟩:=Kk.1 ha;simp only[Ko,Kq,Kt] at hb;subst hb;have:=h3 e he;omega
 rcases KN.1 he with he|he
 ·have:=h3 e he;omega
 rw[Kt] at he;subst he;exact Nat.lt_succ_self c
theorem sV.add{es:List ME}{c:Nat}{l:List Tr}(h:sV es c l)(t:Tr)(hn:lkB t.x l=none):sV (es++[⟨.str t.x,t.w.v,c⟩]) (c+1) (l++[t]):=by
 obtain⟨L,hL,hx,hl⟩:=h;have hno:∀e∈L,e.x≠t.x:=fun e he=>u9 ((hl t.x).trans hn) e.p (Kk.2 ⟨e,he,rfl⟩);refine⟨L++[⟨t.x,t.w,c⟩],hL.add t.x t.w,?_,fun x=>?_⟩
 ·rw[Ki,KC];refine⟨hx,Zm,fun a ha b hb=>?_⟩;obtain⟨e,he,rfl⟩:=Kk.1 ha;simp only[Ko,Kq,Kt] at hb;subst hb;exact hno e he
 rw[Ki,Ko,Kq,Bx,By,←hl x];rfl
theorem Ev{A B:List (ByteArray×Vl)}(h:A.Perm B)(hn:(A.map KB).Nodup)(x:ByteArray):lkP x A=lkP x B:=by
 have key:∀{C:List (ByteArray×Vl)},(C.map KB).Nodup→∀w,lkP x C=some w↔(x,w)∈C:=by
  intro C hC w;induction C with
  |nil=>simp[lkP]
  |cons a C ih=>
   rw[Ko,KO] at hC;unfold lkP;split
   ·rename_i e;simp only[Option.some.injEq,Ks];constructor
    ·rintro rfl;exact .inl (by rw[←e])
    rintro(h|h)
    ·rw[←h]
    exact absurd (Kk.2 ⟨_,h,rfl⟩) (by rw[e] at hC;exact hC.1)
   rename_i e;rw[ih hC.2,Ks];exact⟨.inr,fun h=>h.elim (fun h=>absurd (by rw[←h]) e) id⟩
 have hn2:(B.map KB).Nodup:=(h.map KB).nodup_iff.1 hn;cases hA:lkP x A with
 |some w=>exact((key hn2 w).2 (h.mem_iff.1 ((key hn w).1 hA))).symm
 |none=>
  cases hB:lkP x B with
  |none=>rfl
  |some w=>rw[(key hn w).2 (h.mem_iff.2 ((key hn2 w).1 hB))] at hA;cases hA
theorem E4:∀{l:List EE},(l.map EE.x).Nodup→∀{a b:EE},a∈l→b∈l→a.x=b.x→a=b
 |c::l,hn,a,b,ha,hb,h=>by
  rw[Ko,KO] at hn;rcases Ks.1 ha with rfl|h1
  ·rcases Ks.1 hb with rfl|h2
   ·rfl
   exact absurd (Kk.2 ⟨b,h2,h.symm⟩) hn.1
  rcases Ks.1 hb with rfl|h2
  ·exact absurd (Kk.2 ⟨a,h1,h⟩) hn.1
  exact E4 hn.2 h1 h2 h
theorem uz(m n:Nat)(es0:List ME)(c0:Nat)(L0:List EE)(h0:A4 es0 c0 L0)(hx0:(L0.map EE.x).Nodup)(h:Hp)(nx:Nat)(hmn:m≠n)(hm:h m=some (.mp es0 c0))(hn:h n=some (.mp [] 0)):
 aY Tryz.prog 150 [.map n, .map m] h nx fun v h' nx'=>∃es c L,h' n=some (.mp es c)∧A4 es c L∧(L.map EE.p).Perm (L0.map EE.p)∧∀k,k<nx→k≠n→h' k=h k:=by
 refine aB L.aZy fun hd=>?_;refine ZK ?_;have hmx:=hd _ _ hm;have hnx:=hd _ _ hn;obtain⟨rfl,hb0,hc0⟩:=h0;refine au ?_;refine Em rfl hm ?_;refine au ?_
 refine aO (fun q:List EE×List EE×List ME×Nat=>aD 16 0 [(0, .map n),(7, .ptr nx .leaf 0 0)])
  (fun q hp nx1=>nx<nx1∧hp m=some (.mp (L0.map EE.me) c0)∧hp nx=some (.mit m c0 (q.1.map EE.b) c0)∧hp n=some (.mp q.2.2.1 q.2.2.2)∧A4 q.2.2.1 q.2.2.2 q.2.1∧q.2.1.map EE.p=q.1.map EE.p∧(q.1.map EE.b).Nodup∧(∀y∈q.1,y∈L0)∧∀k,k<nx→k≠n→hp k=h k)
  (fun q=>L0.length-q.1.length) ([],[],[],0) ⟨Zw,by simp only[hm,(fls:(m=nx)=False),go_sem,reduceIte,jA,jB,jC,jD,reduceCtorEq,jE,jF],by simp only[go_sem,reduceIte,jA,jB,jC,jD,reduceCtorEq,jE,jF],by simp only[hn,(fls:(n=nx)=False),go_sem,reduceIte,jA,jB,jC,jD,reduceCtorEq,jE,jF],⟨rfl,Zm,Zm⟩,rfl,Zm,Zm,fun k hk _=>by simp only[Kc];rw[if_neg or]⟩ (by simp only[WkL,aD,jH,jI,jJ,go_sem,reduceIte,jA,jB,jC,jD,reduceCtorEq,jE,jF]) ?_
 rintro⟨js,L,es,c⟩ hp nx1 ⟨q1,q2,q3,q4,q5,q6,q7,q8,q9⟩;generalize hQ:aV _ _ _ _ _=Q0;dsimp only at q3 q4 q5 q6 q7 q8;refine Zk ?_;refine au ?_;refine En rfl q3 q2 (fun e he=>by obtain⟨y,hy,rfl⟩:=Kk.1 he;exact hc0 y hy) (Kw _) ?_ ?_
 ·intro e he hns;obtain⟨y,hy,rfl⟩:=Kk.1 he;have hns:y.b∉js.map EE.b:=hns;have hno:∀z∈js,z.x≠y.x:=fun z hz e=>hns (by rw[←E4 hx0 (q8 z hz) hy e];exact Kk.2 ⟨z,hz,rfl⟩);have hf:bX (.plain .leaf [.str]) (.str y.x) es=some none:=by
   have:=Fe y.x L;rw[←q5.1,q6,Ew (fun e he=>by obtain⟨z,hz,rfl⟩:=Kk.1 he;exact hno z hz)] at this;exact this
  have hwf:=Kd y.w;simp only[EE.me];refine au ?_;refine Ep (b:=y.b) (e:=y.me) (m:=m) (since:=c0) (c:=c0) (es:=L0.map EE.me) (seen:=js.map EE.b++[y.b]) rfl (by simp only[go_sem,reduceIte,jA,jB,jC,jD,reduceCtorEq,jE,jF]) (by simp only[q2,(fls:(m=nx)=False),go_sem,reduceIte,jA,jB,jC,jD,reduceCtorEq,jE,jF]) Zm (F7 EE.me (by exact hb0) hy) ?_;simp only[EE.me];refine aue hwf ?_;refine oH (es:=es) (c:=c) (n:=n) rfl rfl (by simp only[q4,(fls:(n=nx)=False),(fls:(n=nx1+1)=False),(fls:(n=nx1+2)=False),(fls:(n=nx1)=False),go_sem,reduceIte,jA,jB,jC,jD,reduceCtorEq,jE,jF]) hf ?_;refine Zn ?_;refine au ?_;rw[←hQ];have bAj:=Cv EE.b q7 q8 hy hns;refine aF (js++[y],L++[⟨y.x,y.w,c⟩],es++[⟨.str y.x,y.w.v,c⟩],c+1) (by dsimp only;rw[Kv,jL,jM];omega) ⟨or,?_,?_,by simp only[go_sem,reduceIte,jA,jB,jC,jD,reduceCtorEq,jE,jF],q5.add y.x y.w,by rw[Ki,Ki,q6];rfl,by exact Ed EE.b q7 hns,fun z hz=>?_,fun k hk hkn=>?_⟩ (by simp only[WkL,aD,jH,jI,jJ,go_sem,reduceIte,jA,jB,jC,jD,reduceCtorEq,jE,jF])
  ·simp only[q2,(fls:(m=n)=False),(fls:(m=nx)=False),(fls:(m=nx1+2)=False),go_sem,reduceIte,jA,jB,jC,jD,reduceCtorEq,jE,jF]
  ·simp only[(fls:(nx=n)=False),(fls:(nx=nx1+2)=False),Ki,Ko,Kq,go_sem,reduceIte,jA,jB,jC,jD,reduceCtorEq,jE,jF]
  ·rcases KN.1 hz with hz|hz
   ·exact q8 z hz
   rw[Kt] at hz;subst hz;exact hy
  simp only[Kc];rw[if_neg hkn,if_neg or,if_neg or,if_neg or];exact q9 k hk hkn
 intro aAy;refine au ?_;rw[←hQ];refine au ?_;refine⟨hp,Kb _,es,c,L,q4,q5,?_,q9⟩;rw[q6];exact(FP EE.b hb0 q7 q8 fun y hy=>aAy y.me (Kk.2 ⟨y,hy,rfl⟩)).map _
theorem nI(m:Nat)(es0:List ME)(c0:Nat)(l:List Tr)(h0:sV es0 c0 l)(h:Hp)(nx:Nat)(hm:h m=some (.mp es0 c0)):
 aY Tryz.prog 100 [.map m] h nx fun v h' nx'=>∃n es c,v= .map n∧nx≤n∧n<nx'∧h' n=some (.mp es c)∧sV es c l∧∀k,k<nx→h' k=h k:=by
 refine aB L.bCo fun hd=>?_;have hmx:=hd _ _ hm;obtain⟨L0,hL,hx,hl⟩:=h0;have e:∀L:List EE,(L.map EE.p).map KB=L.map EE.x:=fun L=>by rw[List.map_map];rfl
 refine ZK ?_;refine au ?_;refine wE ?_;refine au ?_;refine bF ((uz m nx es0 c0 L0 hL hx _ (nx+1) or (by simp only[hm,(fls:(m=nx)=False),go_sem,reduceIte,jA,jB,jC,jD,reduceCtorEq,jE,jF]) (by simp only[go_sem,reduceIte,jA,jB,jC,jD,reduceCtorEq,jE,jF])).dom.mono ?_);rintro v h2 nx2 hle ⟨⟨es,c,L,p1,p2,p3,p4⟩,hd2,_⟩;unfold cY;refine Zn ?_;refine au ?_;refine aC h2 (Kb _) ⟨nx,es,c,rfl,Kw _,Zw,p1,⟨L,p2,?_,fun x=>?_⟩,fun k hk=>?_⟩
 ·have:=(p3.map KB).nodup_iff;rw[e,e] at this;exact this.2 hx
 ·rw[←hl x];exact Ev p3 (by
   have:=(p3.map KB).nodup_iff;rw[e,e] at this;rw[e];exact this.2 hx) x
 rw[p4 k or or];simp only[Kc];rw[if_neg or]
def dW:List ByteArray→List Vl→List Tr
 |x::xs,v::vs=>⟨x,v⟩::dW xs vs
 |_,_=>[]
def lL(l:List Tr)(vars:List ByteArray):List Vl:=vars.map fun x=>(lkB x l).getD eX
theorem yL:∀(xs:List ByteArray) (vs:List Vl) (i:Nat) (h1:i<xs.length) (h2:i<vs.length),dW (xs.take (i+1)) (vs.take (i+1))=dW (xs.take i) (vs.take i)++[⟨xs[i],vs[i]⟩]
 |x::xs,v::vs,0,_,_=>by simp[dW]
 |x::xs,v::vs,i+1,h1,h2=>by
  simp only[List.take_succ_cons,dW,List.getElem_cons_succ,jP];rw[yL xs vs i (by simpa using h1) (by simpa using h2)]
theorem BF{x:ByteArray}:∀{xs:List ByteArray} {vs:List Vl},x∉xs→lkB x (dW xs vs)=none
 | [],_,_=>rfl
 |_::_,[],_=>rfl
 |y::xs,v::vs,h=>by
  simp only[Ks,not_or] at h;unfold dW lkB;rw[if_neg (fun e=>h.1 e.symm)];exact BF h.2
theorem Ck{l:List ByteArray}(h:l.Nodup){i:Nat}(hi:i<l.length):l[i]∉l.take i:=by
 have h2:(l.take (i+1)).Nodup:=(List.take_sublist _ _).nodup h;rw[Kj hi,KC] at h2;exact fun e=>h2.2.2 _ e _ (Kt.2 rfl) rfl
theorem tV(o1 o2:Own)(xs:List ByteArray)(vs:List Vl)(hn:xs.Nodup)(hl:xs.length≤1000000000)(h:Hp)(nx:Nat):
 aY Tryz.prog 57 [.sl .leaf o1 (xs.map V.str),vls o2 vs] h nx fun v h' nx'=>(if xs.length=vs.length then∃n es c,v= .tup [.map n, .nilIface]∧nx≤n∧n<nx'∧h' n=some (.mp es c)∧sV es c (dW xs vs) else v= .tup [.aAH,eF 6])∧∀k,k<nx→h' k=h k:=by
 refine aB L.bDr fun hd=>?_;have hd:aS h nx:=hd;refine ZK ?_;by_cases hne:xs.length=vs.length
 ·simp only[if_pos hne];have g:((xs.length:Int) != (vs.length:Int))=false:=bnf;refine aue (e3 g (@jK ByteArray V) (@jK Vl V)) ?_;refine wE ?_;refine aue (e2 (@jK ByteArray V) (@jK Vl V)) ?_
  refine aO (fun i:Nat=>aD 31 0 [(1,vls o2 vs),(4, .aAH),(5, .nilIface),(6, .map nx),(16, .sl .leaf o1 (xs.map V.str)),(17, .int .i64 xs.length),(18, .int .i64 i)])
   (fun i hp nx1=>i≤xs.length∧nx<nx1∧aS hp nx1∧(∀k,k<nx→hp k=h k)∧∃es c,hp nx=some (.mp es c)∧sV es c (dW (xs.take i) (vs.take i)))
   (fun i=>xs.length-i) 0 ⟨Km _,Zw,by exact dmo hd,fun k hk=>by simp only[Kc];rw[if_neg or],[],0,by simp only[go_sem,reduceIte,jA,jB,jC,jD,reduceCtorEq,jE,jF],EZ⟩ (by simp only[WkL,aD,jH,jI,jJ,jK,go_sem,reduceIte,jA,jB,jC,jD,reduceCtorEq,jE,jF]) ?_
  rintro i hp nx1 ⟨hi,hnx,hdm,hsm,es,c,hmp,aD2⟩;generalize hQ:aV _ _ _ _ _=Q0;refine Zk ?_;rcases Kp i xs.length with hlt|hge
  ·have hlv:i<vs.length:=or;have hc:decide ((i:Int)<(xs.length:Int))=true:=dct;have hg:=aJ V.str xs i hlt;have hg2:=aJ Ka vs i hlv;have hw:IntKind.i64.wrap ((i:Int)+1)=((i+1:Nat):Int):=wrp;have htk:=yL xs vs i hlt hlv;have hno:lkB xs[i] (dW (xs.take i) (vs.take i))=none:=BF (Ck hn hlt);have hx:=aD2.at xs[i];rw[hno] at hx;have hvf:=Kd vs[i];refine aue (e10 hc hg hg2 hlt hlv hvf (@jK ByteArray V) (@jK Vl V) jG hmp) ?_;refine oH (es:=es) (c:=c) (n:=nx) rfl rfl (by simp only[hmp,hnx,go_sem,reduceIte,jA,jB,jC,jD,reduceCtorEq,jE,jF]) hx ?_;refine Zn ?_;refine aue hw ?_;rw[←hQ];exact aF (i+1) or ⟨hlt,or,dmo hdm,fun k hk=>by simp only[Kc];rw[if_neg or];exact hsm k hk,_,_,by simp only[go_sem,reduceIte,jA,jB,jC,jD,reduceCtorEq,jE,jF];rfl,by rw[htk];exact aD2.add ⟨xs[i],vs[i]⟩ hno⟩ (by simp only[WkL,aD,jH,jI,jJ,go_sem,reduceIte,jA,jB,jC,jD,reduceCtorEq,jE,jF])
  have hc:decide ((i:Int)<(xs.length:Int))=false:=dcf;refine aue hc ?_;rw[←hQ];refine au ?_;rw[Kh or,Kh or] at aD2;exact aM hp (Kb _) ⟨⟨nx,es,c,rfl,Kw _,hnx,hmp,aD2⟩,hsm⟩
 simp only[if_neg hne];have g:((xs.length:Int) != (vs.length:Int))=true:=bnt;refine aue (e3 g (@jK ByteArray V) (@jK Vl V)) ?_;exact aM _ (Kb _) ⟨rfl,fun k hk=>rfl⟩
theorem xU(o:Own)(xs:List ByteArray)(hl:xs.length≤1000000000)(l:List Tr)(n:Nat)(es:List ME)(c:Nat)(h:Hp)(hm:h n=some (.mp es c))(he:aj es l):aK Tryz.prog 61 [.sl .leaf o (xs.map V.str), .map n] h (.sl (.agg 3) .free ((lL l xs).map Ka)):=by
 refine bK (fun L=>⟨fun n e=>(by cases e),aT (fun x=>Ke L x) _⟩) fun h' nx hh=>aB L.bDj fun hd=>?_;have hd:aS h' nx:=hd;refine ZK ?_;have hn1:=hh _ _ hm rfl;have hn2:n<nx:=hd _ _ hn1;have hcap:xs.length*32≤140737488355328:=or;refine aue (e3 (@jK ByteArray V) hcap jG) ?_;generalize hRC:kH (lwp Tryz.prog _) _=RC
 refine aO (fun q:Nat×Nat=>aD 25 0 [(1, .map n),(4, .sl (.agg 3) .nil []),(5, .rs q.2 (.agg 3) 0 q.1),(11, .sl .leaf o (xs.map V.str)),(12, .int .i64 xs.length),(13, .int .i64 q.1)])
  (fun q hp nx1=>q.1≤xs.length∧nx<nx1∧aS hp nx1∧Kf nx h' hp∧nx≤q.2∧hp q.2=some (.arr (.agg 3) ((lL l (xs.take q.1)).map Ka)))
  (fun q=>xs.length-q.1) (0,nx) ⟨Km _,Zw,by exact dmo hd,by exact kep Hp.same.aAn,Zw,by simp only[List.take_zero,lL,Kq,go_sem,reduceIte,jA,jB,jC,jD,reduceCtorEq,jE,jF]⟩ (by simp only[WkL,aD,jH,jI,jJ,jK,go_sem,reduceIte,jA,jB,jC,jD,reduceCtorEq,jE,jF]) ?_
 rintro⟨i,id⟩ hp nx1 ⟨hi,hnx,hdm,hsm,aHw,hid⟩;generalize hQ:aV _ _ _ _ _=Q0;dsimp only at hi aHw hid;refine Zk ?_;have hme:hp n=some (.mp es c):=(hsm n hn2).trans hn1;have aDD:id<nx1:=hdm _ _ hid;rcases Kp i xs.length with hlt|hge
 ·have hc:decide ((i:Int)<(xs.length:Int))=true:=dct;have hg:=aJ V.str xs i hlt;have hw:IntKind.i64.wrap ((i:Int)+1)=((i+1:Nat):Int):=wrp;have hn3:n<nx1:=or;have hrs:lL l (xs.take (i+1))=lL l (xs.take i)++[(lkB xs[i] l).getD eX]:=by
   unfold lL;rw[Kj hlt,Ki];rfl
  have hrl:(lL l (xs.take i)).length=i:=by unfold lL;rw[jK,List.length_take];omega
  have hx:=he xs[i];obtain⟨q,hq,aBV⟩:∃q,bX (.plain .leaf [.str]) (.str xs[i]) es=some q∧lO false (.agg [.int .i64 0, .int .i64 0, .str ⟨#[]⟩]) es q=((lkB xs[i] l).getD eX).v:=by
   cases k:lkB xs[i] l with
   |none=>rw[k] at hx;exact⟨none,hx,rfl⟩
   |some w=>
    rw[k] at hx;obtain⟨j,hj1,hj2,hj3⟩:=hx;exact⟨some j,hj1,hj2⟩
  generalize (lkB xs[i] l).getD eX=w at hrs aBV;generalize lL l (xs.take i)=W at*;have hml:(W.map Ka).length=i:=by rw[jK];exact hrl
  have htk:(W.map Ka).take i=W.map Ka:=Kh or;have hwf:=Kd w;refine aue (e12 hc hg hlt hw hme hn3 hq aBV hid aDD hml (e3 htk hwf (@jK ByteArray V))) ?_;rw[←hQ];exact aF (i+1,nx1+1) Zw ⟨hlt,or,dmo hdm,kep hsm,Zw,by dsimp only;rw[hrs,Ki];simp only[Ko,Kq,go_sem,reduceIte,jA,jB,jC,jD,reduceCtorEq,jE,jF]⟩ (by simp only[WkL,aD,jH,jI,jJ,go_sem,reduceIte,jA,jB,jC,jD,reduceCtorEq,jE,jF])
 have hc:decide ((i:Int)<(xs.length:Int))=false:=dcf;refine aue hc ?_;rw[←hQ];refine au ?_;rw[Kh or] at hid;have hie:i=xs.length:=or;rw[hie];rw[←hRC];have hrl:((lL l xs).map Ka).length=xs.length:=by unfold lL;rw[jK,jK]
 refine fX (lE (t:=5) (n:=id) (k:= .agg 3) (off:=0) (len:=xs.length) (es:=(lL l xs).map Ka) rfl hid or) ?_;have htk:(KW 0 ((lL l xs).map Ka)).take xs.length=(lL l xs).map Ka:=by rw[KR];exact Kh or
 rw[htk];refine au ?_;refine aC _ (Kb _) ⟨rfl,?_⟩;refine fun m b e=>?_;have:=hd _ _ e;simp only[Hp.del];rw[if_neg or];exact hsm.le hd (Kb _) m b e
def iN(p:Vl×Int):Int×Int:=if p.2≠0 then (0,p.2) else if p.1.k≠1 then (0,7) else (p.1.n,0)
def opB(op a b:Int):Int:=if op=1 then a+b else if op=2 then a-b else a*b
def bJ(l:List Tr):Nat→Ex→Vl×Int
 |0, .mk _ t _ _=>bY t l
 |n+1, .mk op t _ ks=>if op=0 then bY t l else match ks with
  | [a,b]=>if (iN (bJ l n a)).2≠0 then (eX,(iN (bJ l n a)).2) else if (iN (bJ l n b)).2≠0 then (eX,(iN (bJ l n b)).2) else ofV (opB op (iN (bJ l n a)).1 (iN (bJ l n b)).1)
  |_=>(eX,0)
theorem s4{t:Tr}{l:List Tr}(h:(bY t l).2=0):dL (bY t l).1=true:=by
 unfold bY at h⊢;split
 ·rename_i h0;rw[if_pos h0] at h;split
  ·rename_i h1;exact h1
  rename_i h1;rw[if_neg h1] at h;cases h
 rename_i h0;rw[if_neg h0] at h;cases hk:lkB t.x l with
 |none=>rw[hk] at h;cases h
 |some w=>
  rw[hk] at h;simp only at h⊢;split
  ·rename_i h1;exact h1
  rename_i h1;rw[if_neg h1] at h;cases h
theorem GH{n:Int}(h:(ofV n).2=0):dL (ofV n).1=true:=by
 unfold ofV at h⊢;split
 ·rename_i hb;simp only[dL];rw[hb];rfl
 rename_i hb;rw[if_neg hb] at h;cases h
theorem rK{l:List Tr}:∀{n:Nat} {e:Ex},cR n e=true→(bJ l n e).2=0→dL (bJ l n e).1=true
 |0, .mk op t o ks,_,h=>s4 h
 |n+1, .mk op t o ks,hr,h=>by
  unfold bJ at h⊢;unfold cR at hr;by_cases h0:op=0
  ·rw[if_pos h0] at h⊢;exact s4 h
  rw[if_neg h0] at h hr⊢;match ks,hr with
  | [a,b],_=>
   simp only at h⊢;split
   ·rename_i h1;rw[if_pos h1] at h;exact absurd h h1
   rename_i h1;rw[if_neg h1] at h;split
   ·rename_i h2;rw[if_pos h2] at h;exact absurd h h2
   rename_i h2;rw[if_neg h2] at h;exact GH h
theorem bq{l:List Tr}{n:Nat}{e:Ex}(hr:cR n e=true):-2147483647≤(iN (bJ l n e)).1∧(iN (bJ l n e)).1≤2147483647:=by
 unfold iN;split
 ·simp
 split
 ·simp
 rename_i h _;exact qb (rK hr (Classical.not_not.1 h))
theorem GK{a b:Int}(a1:-2147483647≤a)(a2:a≤2147483647)(b1:-2147483647≤b)(b2:b≤2147483647):-4611686014132420609≤a*b∧a*b≤4611686014132420609:=by
 have h1:a.natAbs*b.natAbs≤2147483647*2147483647:=Nat.mul_le_mul or or;have h2:(a*b).natAbs=a.natAbs*b.natAbs:=Int.natAbs_mul a b;omega
theorem Ec{a b:Int}(a1:-2147483647≤a)(a2:a≤2147483647)(b1:-2147483647≤b)(b2:b≤2147483647):IntKind.i64.wrap (a*b)=a*b:=by
 have:=GK a1 a2 b1 b2;exact wrp
theorem Gy(e:Int):veq (nW.iface true) (eF e) V.nilIface=some (decide (e=0)):=by
 unfold eF;split
 ·rename_i h;rw[decide_eq_true h];rfl
 rename_i h;rw[decide_eq_false h];rfl
theorem BM{e:Ex}{p:Vl×Int}{n:Nat}{es:List ME}{c:Nat}{h:Hp}(hm:h n=some (.mp es c))(hE:∀h':Hp,h' n=some (.mp es c)→aK Tryz.prog 151 [e.v, .map n] h' (.tup [p.1.v,eF p.2])):
 aK Tryz.prog 183 [e.v, .map n] h (.tup [.int .i64 (iN p).1,eF (iN p).2]):=by
 refine aH (fun L=>⟨trivial,eU L _,trivial⟩) fun h' nx hh=>aB L.aZL fun hd=>?_;refine ZK ?_;have hn1:=hh _ _ hm rfl;have hn2:n<nx:=hd _ _ hn1;have C:=hE (h'.set nx (.arr (.agg 6) [e.v])) (by simp only[Kc];rw[if_neg or];exact hn1);have hf:=Ex.aAA e;obtain⟨X,hX⟩:∃X,e.v=X:=⟨_,rfl⟩;rw[hX] at C hf⊢;have hv:=Gy p.2;have hwf:=Kd p.1;obtain⟨T,hT,hk0,hk1⟩:∃T,p.1.v= .agg T∧T.getD 0 (.tup [])= .int .i64 p.1.k∧T.getD 1 (.tup [])= .int .i64 p.1.n:=⟨_,rfl,rfl,rfl⟩;rw[hT] at C hwf;unfold iN;by_cases h0:p.2=0
 ·rw[decide_eq_true h0] at hv;rw[if_neg (by simp[h0])];by_cases h1:p.1.k=1
  ·have g1:(p.1.k != 1)=false:=bnf;rw[if_neg (by simp[h1])];refine aue hf ?_;refine aI C rfl (aL _) ?_;refine aue (e5 hv hwf hk0 hk1 g1) ?_;exact aM h' (leo hd) ⟨rfl,rfl⟩
  have g1:(p.1.k != 1)=true:=bnt;rw[if_pos h1];refine aue hf ?_;refine aI C rfl (aL _) ?_;refine aue (e5 hv hwf hk0 hk1 g1) ?_;exact aM h' (leo hd) ⟨rfl,rfl⟩
 rw[decide_eq_false h0] at hv;rw[if_pos h0];refine aue hf ?_;refine aI C rfl (aL _) ?_;refine aue (e3 hv hwf hk0) ?_;exact aM h' (leo hd) ⟨rfl,rfl⟩
theorem vE(l:List Tr):∀(k:Nat) (e:Ex),cR k e=true→∀(n:Nat) (es:List ME) (c:Nat) (h:Hp),h n=some (.mp es c)→aj es l→aK Tryz.prog 151 [e.v, .map n] h (.tup [(bJ l k e).1.v,eF (bJ l k e).2]):=by
 have base:∀(t:Tr) (o:Own) (ks:List Ex) (n:Nat) (es:List ME) (c:Nat) (h:Hp),h n=some (.mp es c)→aj es l→aK Tryz.prog 151 [(Ex.mk 0 t o ks).v, .map n] h (.tup [(bY t l).1.v,eF (bY t l).2]):=by
  intro t o ks n es c h hm he;refine aH (fun L=>⟨Ke L _,eU L _,trivial⟩) fun h' nx hh=>aB L.aPB fun hd=>?_;refine ZK ?_;have hn1:=hh _ _ hm rfl;have hn2:n<nx:=hd _ _ hn1;have hev:(Ex.mk 0 t o ks).v= .agg [.int .i64 0, .str t.x, .int .i64 t.w.k, .int .i64 t.w.n, .str t.w.s, .sl (.agg 6) o (ks.map Ex.v)]:=by rw[Ex.aAV];rfl
  rw[hev];have hwf:=Kd (bY t l).1;have hz:((0:Int)==0)=true:=rfl;have C:∀h,h n=some (.mp es c)→aK Tryz.prog 62 [.agg [.str t.x, .int .i64 t.w.k, .int .i64 t.w.n, .str t.w.s], .map n] h (.tup [(bY t l).1.v,eF (bY t l).2]):=fun h hm=>vB t l n es c h hm he;refine aue hz ?_;refine aI (C _ ?_) rfl (aL _) ?_
  ·simp only[hn1,hn2,go_sem,reduceIte,jA,jB,jC,jD,reduceCtorEq,jE,jF]
  refine aue hwf ?_;refine aP (by simp only[hwf,bC hwf,go_sem,reduceIte,jA,jB,jC,jD,reduceCtorEq,jE,jF]) h' (leo hd) ⟨?_,rfl⟩;simp only[hwf,bC hwf,go_sem,reduceIte,jA,jB,jC,jD,reduceCtorEq,jE,jF]
 intro k;induction k with
 |zero=>
  rintro⟨op,t,o,ks⟩ hr n es c h hm he;obtain⟨rfl,_⟩:=of_decide_eq_true hr;exact base t o ks n es c h hm he
 |succ k ih=>
  rintro⟨op,t,o,ks⟩ hr n es c h hm he;by_cases h0:op=0
  ·subst h0;unfold bJ;rw[if_pos rfl];exact base t o ks n es c h hm he
  unfold cR at hr;unfold bJ;rw[if_neg h0] at hr⊢;match ks,hr with
  | [a,b],hr=>
   obtain⟨_,_,_,ha,hb⟩:=of_decide_eq_true hr;simp only;refine aH (fun L=>⟨Ke L _,eU L _,trivial⟩) fun h' nx hh=>aB L.aPB fun hd=>?_;refine ZK ?_;have hn1:=hh _ _ hm rfl;have hn2:n<nx:=hd _ _ hn1;have hev:(Ex.mk op t o [a,b]).v= .agg [.int .i64 op, .str t.x, .int .i64 t.w.k, .int .i64 t.w.n, .str t.w.s, .sl (.agg 6) o [a.v,b.v]]:=by rw[Ex.aAV];rfl
   rw[hev];have CA:∀h,h n=some (.mp es c)→aK Tryz.prog 183 [a.v, .map n] h (.tup [.int .i64 (iN (bJ l k a)).1,eF (iN (bJ l k a)).2]):=fun h hm=>BM hm fun h' hm'=>ih a ha n es c h' hm' he;have CB:∀h,h n=some (.mp es c)→aK Tryz.prog 183 [b.v, .map n] h (.tup [.int .i64 (iN (bJ l k b)).1,eF (iN (bJ l k b)).2]):=fun h hm=>BM hm fun h' hm'=>ih b hb n es c h' hm' he;obtain⟨a1,a2⟩:=bq (l:=l) ha;obtain⟨b1,b2⟩:=bq (l:=l) hb;have hfa:=Ex.aAA a;have hfb:=Ex.aAA b;generalize iN (bJ l k a)=pa at*;generalize iN (bJ l k b)=pb at*;have va:=Gy pa.2;have vb:=Gy pb.2;have hz:(op==0)=false:=bqf;generalize a.v=A at*;generalize b.v=B at*;refine aue (e2 hz hfa) ?_;refine aI (CA _ ?_) rfl (aL _) ?_
   ·simp only[hn1,hn2,go_sem,reduceIte,jA,jB,jC,jD,reduceCtorEq,jE,jF]
   by_cases ea:pa.2=0
   ·rw[decide_eq_true ea] at va;rw[if_neg (by simp[ea])];refine aue (e3 hz hfb va) ?_;refine aI (CB _ ?_) rfl (aL _) ?_
    ·simp only[hn1,hn2,go_sem,reduceIte,jA,jB,jC,jD,reduceCtorEq,jE,jF]
    by_cases eb:pb.2=0
    ·rw[decide_eq_true eb] at vb;rw[if_neg (by simp[eb])];have C1:=fun h=>DD (opB op pa.1 pb.1) h;have hwf:=Kd (ofV (opB op pa.1 pb.1)).1;unfold opB at C1 hwf⊢;by_cases o1:op=1
     ·have g1:(op==1)=true:=bqt;rw[if_pos o1] at C1 hwf⊢;have hw:IntKind.i64.wrap (pa.1+pb.1)=pa.1+pb.1:=wrp;refine aue (e4 g1 vb hw hwf) ?_;refine aP (by simp only[hwf,bC hwf,go_sem,reduceIte,jA,jB,jC,jD,reduceCtorEq,jE,jF]) h' (leo hd) ⟨?_,rfl⟩;simp only[hwf,bC hwf,go_sem,reduceIte,jA,jB,jC,jD,reduceCtorEq,jE,jF]
     have g1:(op==1)=false:=bqf;rw[if_neg o1] at C1 hwf⊢;by_cases o2:op=2
     ·have g2:(op==2)=true:=bqt;rw[if_pos o2] at C1 hwf⊢;have hw:IntKind.i64.wrap (pa.1-pb.1)=pa.1-pb.1:=wrp;refine aue (e5 g1 g2 vb hw hwf) ?_;refine aP (by simp only[hwf,bC hwf,go_sem,reduceIte,jA,jB,jC,jD,reduceCtorEq,jE,jF]) h' (leo hd) ⟨?_,rfl⟩;simp only[hwf,bC hwf,go_sem,reduceIte,jA,jB,jC,jD,reduceCtorEq,jE,jF]
     have g2:(op==2)=false:=bqf;rw[if_neg o2] at C1 hwf⊢;have hw:IntKind.i64.wrap (pa.1*pb.1)=pa.1*pb.1:=Ec a1 a2 b1 b2;refine aue (e5 g1 g2 vb hw hwf) ?_;refine aP (by simp only[hwf,bC hwf,go_sem,reduceIte,jA,jB,jC,jD,reduceCtorEq,jE,jF]) h' (leo hd) ⟨?_,rfl⟩;simp only[hwf,bC hwf,go_sem,reduceIte,jA,jB,jC,jD,reduceCtorEq,jE,jF]
    rw[decide_eq_false eb] at vb;rw[if_pos eb];refine aue (e2 hz vb) ?_;refine aP (by simp only[go_sem,reduceIte,jA,jB,jC,jD,reduceCtorEq,jE,jF]) h' (leo hd) ⟨?_,rfl⟩;refine Zn ?_;rfl
   rw[decide_eq_false ea] at va;rw[if_pos ea];refine aue (e2 hz va) ?_;refine aP (by simp only[go_sem,reduceIte,jA,jB,jC,jD,reduceCtorEq,jE,jF]) h' (leo hd) ⟨?_,rfl⟩;refine Zn ?_;rfl
end Go.Proofs.YtgbiopfghdilnaaGreatDoor
namespace Go.Proofs.YtgbiopfghdilnaaGreatDoor
open Go.RowKit Go.Sort
attribute [local irreducible] IntKind.wrap
def tH(op:Int)(a b:Vl):Bool×Int:=
 if 3≤op∧(a.k≠1∨b.k≠1) then (false,7) else
 (if op=1 then decide (a=b) else if op=2 then !decide (a=b) else if op=3 then decide (a.n<b.n) else if op=4 then decide (a.n≤b.n) else if op=5 then decide (b.n<a.n) else decide (b.n≤a.n),0)
theorem x8(op:Int)(a b:Vl)(h1:1≤op)(h6:op≤6)(ha:dL a=true)(hb:dL b=true)(h:Hp):aK Tryz.prog 152 [.int .i64 op,a.v,b.v] h (.tup [.bool (tH op a b).1,eF (tH op a b).2]):=by
 refine aH (fun L=>⟨trivial,eU L _,trivial⟩) fun h' nx hh=>aB L.aZq fun hd=>?_;simp only[KE,KG,Kx,Ky,Kz,KA,KF,KH,V.undef];have C1:=fun h=>lD a h;have C2:=fun h=>lD b h;rw[ha] at C1;rw[hb] at C2;have hv:=qA a b;have hfa:=Kd a;have hfb:=Kd b;obtain⟨A,hA,ak,an⟩:∃T,a.v= .agg T∧T.getD 0 (.tup [])= .int .i64 a.k∧T.getD 1 (.tup [])= .int .i64 a.n:=⟨_,rfl,rfl,rfl⟩;obtain⟨B,hB,bk,bn⟩:∃T,b.v= .agg T∧T.getD 0 (.tup [])= .int .i64 b.k∧T.getD 1 (.tup [])= .int .i64 b.n:=⟨_,rfl,rfl,rfl⟩;rw[hA] at C1 hv hfa⊢;rw[hB] at C2 hv hfb⊢;have z1:decide (op<1)=false:=dcf;have z6:decide ((6:Int)<op)=false:=dcf;unfold tH;by_cases h3:3≤op
 ·have z3:decide (3≤op)=true:=dct;have e1:(op==1)=false:=bqf;have e2':(op==2)=false:=bqf;have n1:¬op=1:=or;have n2:¬op=2:=or;by_cases ka:a.k=1
  ·have ga:(a.k != 1)=false:=bnf;by_cases kb:b.k=1
   ·have gb:(b.k != 1)=false:=bnf;rw[if_neg (by simp[ka,kb]),if_neg n1,if_neg n2];by_cases o3:op=3
    ·have g3:(op==3)=true:=bqt;rw[if_pos o3];refine aue (e14 z1 z6 z3 hfa hfb ak an bk bn e1 e2' ga gb g3) ?_;exact aM h' (leo hd) ⟨rfl,rfl⟩
    have g3:(op==3)=false:=bqf;rw[if_neg o3];by_cases o4:op=4
    ·have g4:(op==4)=true:=bqt;rw[if_pos o4];refine aue (e14 z1 z6 z3 hfa hfb ak an bk bn e1 e2' ga gb (e2 g3 g4)) ?_;exact aM h' (leo hd) ⟨rfl,rfl⟩
    have g4:(op==4)=false:=bqf;rw[if_neg o4];by_cases o5:op=5
    ·have g5:(op==5)=true:=bqt;rw[if_pos o5];refine aue (e14 z1 z6 z3 hfa hfb ak an bk bn e1 e2' ga gb (e3 g3 g4 g5)) ?_;exact aM h' (leo hd) ⟨rfl,rfl⟩
    have g5:(op==5)=false:=bqf;rw[if_neg o5];refine aue (e14 z1 z6 z3 hfa hfb ak an bk bn e1 e2' ga gb (e3 g3 g4 g5)) ?_;exact aM h' (leo hd) ⟨rfl,rfl⟩
   have gb:(b.k != 1)=true:=bnt;rw[if_pos ⟨h3, .inr kb⟩];refine aue (e12 z1 z6 z3 hfa hfb ak an bk bn ga gb trivial) ?_;exact aM h' (leo hd) ⟨rfl,rfl⟩
  have ga:(a.k != 1)=true:=bnt;rw[if_pos ⟨h3, .inl ka⟩];refine aue (e10 z1 z6 z3 hfa hfb ak an bk bn ga) ?_;exact aM h' (leo hd) ⟨rfl,rfl⟩
 have z3:decide (3≤op)=false:=dcf;rw[if_neg (fun e=>h3 e.1)];by_cases o1:op=1
 ·have g1:(op==1)=true:=bqt;rw[if_pos o1];refine aue (e7 z1 z6 z3 hfa hfb hv g1) ?_;exact aM h' (leo hd) ⟨rfl,rfl⟩
 have g1:(op==1)=false:=bqf;have g2:(op==2)=true:=bqt;rw[if_neg o1,if_pos or];refine aue (e8 z1 z6 z3 hfa hfb hv g1 g2) ?_;exact aM h' (leo hd) ⟨rfl,rfl⟩
theorem tI(l:Li)(hr:bG l=true)(h3:l.k=3)(h:Hp):aK Tryz.prog 101 [l.v] h (.bool true):=by
 refine aH (fun L=>trivial) fun h' nx hh=>aB L.bCn fun hd=>?_;simp only[KE,KG,Kx,Ky,Kz,KA,KF,KH,V.undef];have C1:=fun h=>mj l h;rw[hr] at C1;have hf:=Li.aAA l;obtain⟨T,hT,hk⟩:∃T,l.v= .agg T∧T.getD 0 (.tup [])= .int .i64 l.k:=⟨_,rfl,rfl⟩;rw[hT] at C1 hf⊢;have g:(l.k==3)=true:=bqt;refine aue (e3 hf hk g) ?_;exact aC h' (leo hd) ⟨rfl,rfl⟩
theorem oY{l:Li}(hr:bG l=true)(h3:l.k=3):1≤l.op∧l.op≤6∧cR 20 l.x=true∧cR 20 l.y=true:=by
 unfold bG at hr;rw[if_neg or] at hr;simp only[Bool.and_eq_true,decide_eq_true_eq] at hr;exact⟨or,or,hr.1.2,hr.2⟩
def pQ(l:List Tr)(x:Li):Bool×Int:=if (bJ l 20 x.x).2≠0 then (false,(bJ l 20 x.x).2) else if (bJ l 20 x.y).2≠0 then (false,(bJ l 20 x.y).2) else tH x.op (bJ l 20 x.x).1 (bJ l 20 x.y).1
theorem AY(l:List Tr)(x:Li)(hr:bG x=true)(h3:x.k=3)(n:Nat)(es:List ME)(c:Nat)(h:Hp)(hm:h n=some (.mp es c))(he:aj es l):aK Tryz.prog 104 [x.v, .map n] h (.tup [.bool (pQ l x).1,eF (pQ l x).2]):=by
 refine aH (fun L=>⟨trivial,eU L _,trivial⟩) fun h' nx hh=>aB L.bCk fun hd=>?_;simp only[KE,KG,Kx,Ky,Kz,KA,KF,KH,V.undef];obtain⟨p1,p6,px,py⟩:=oY hr h3;have hn1:=hh _ _ hm rfl;have hn2:n<nx:=hd _ _ hn1;have C1:=fun h=>tI x hr h3 h;have CX:=fun h hm=>vE l 20 x.x px n es c h hm he;have CY:=fun h hm=>vE l 20 x.y py n es c h hm he;have hvx:=rR (bJ l 20 x.x).2;have hvy:=rR (bJ l 20 x.y).2;have hrx:=fun e=>rK (l:=l) px e;have hry:=fun e=>rK (l:=l) py e;unfold pQ;generalize bJ l 20 x.x=P at*;generalize bJ l 20 x.y=Q at*;have hfP:=Kd P.1;have hfQ:=Kd Q.1;have hf:=Li.aAA x;have hXf:=Ex.aAA x.x;have hYf:=Ex.aAA x.y;obtain⟨T,hT,htx,hty,hto⟩:∃T,x.v= .agg T∧(.agg ((T.drop 4).take 6))=x.x.v∧(.agg ((T.drop 10).take 6))=x.y.v∧(V.agg T).cell 3= .int .i64 x.op:=⟨_,rfl,by rw[Ex.aAV];rfl,by rw[Ex.aAV];rfl,rfl⟩;have hlx:aX (.agg 6) 4 (.agg T)=x.x.v:=htx;have hly:aX (.agg 6) 10 (.agg T)=x.y.v:=hty;rw[hT] at C1 hf⊢;generalize x.x.v=X at*;generalize x.y.v=Y at*;have hto:T.getD 3 (.tup [])= .int .i64 x.op:=hto;refine aue (e4 hf hlx hly hXf) ?_;refine aI (CX _ ?_) rfl (aL _) ?_
 ·simp only[hn1,hn2,go_sem,reduceIte,Kx,Ky,KU,KK,reduceCtorEq,KM,KP]
 by_cases e1:P.2=0
 ·rw[decide_eq_true e1] at hvx;rw[if_neg (by simp[e1])];refine aue (e6 hf hlx hly hYf hvx hfP) ?_;refine aI (CY _ ?_) rfl (aL _) ?_
  ·simp only[hn1,hn2,go_sem,reduceIte,Kx,Ky,KU,KK,reduceCtorEq,KM,KP]
  by_cases e2':Q.2=0
  ·rw[decide_eq_true e2'] at hvy;rw[if_neg (by simp[e2'])];have C2:=fun h=>x8 x.op P.1 Q.1 p1 p6 (hrx e1) (hry e2') h;clear C1;generalize P.1.v=PV at*;generalize Q.1.v=QV at*;refine aue (e6 hf hto hvy hfP hfQ hvx) ?_;exact aM h' (leo hd) ⟨rfl,rfl⟩
  rw[decide_eq_false e2'] at hvy;rw[if_pos e2'];refine aue (e5 hf hlx hly hvy hfQ) ?_;exact aM h' (leo hd) ⟨rfl,rfl⟩
 rw[decide_eq_false e1] at hvx;rw[if_pos e1];refine aue (e5 hf hlx hly hvx hfP) ?_;exact aM h' (leo hd) ⟨rfl,rfl⟩
end Go.Proofs.YtgbiopfghdilnaaGreatDoor
namespace Go.Proofs.YtgbiopfghdilnaaGreatDoor
open Go.RowKit Go.Sort
attribute [local irreducible] IntKind.wrap
def dJ(l:List Tr)(e:Ex):ByteArray:=if e.op≠0∨(lkB e.t.x l).isSome=true then ⟨#[]⟩ else e.t.x
theorem yY{l:List Tr}{e:Ex}(h:(dJ l e).size≠0):lkB (dJ l e) l=none:=by
 unfold dJ at h⊢;split at h
 ·exact absurd rfl h
 rename_i hc;rw[if_neg hc];simp only[not_or,Bool.not_eq_true,Option.isSome_eq_false_iff,Option.isNone_iff_eq_none] at hc;exact hc.2
theorem de(l:List Tr)(e:Ex)(n:Nat)(es:List ME)(c:Nat)(h:Hp)(hm:h n=some (.mp es c))(he:aj es l):aK Tryz.prog 102 [e.v, .map n] h (.str (dJ l e)):=by
 refine aH (fun L=>trivial) fun h' nx hh=>aB L.bCm fun hd=>?_;refine ZK ?_;have hn1:=hh _ _ hm rfl;have hn2:n<nx:=hd _ _ hn1;obtain⟨op,t,o,ks⟩:=e;have hev:(Ex.mk op t o ks).v= .agg [.int .i64 op, .str t.x, .int .i64 t.w.k, .int .i64 t.w.n, .str t.w.s, .sl (.agg 6) o (ks.map Ex.v)]:=by rw[Ex.aAV];rfl
 rw[hev];obtain⟨R,hR⟩:∃R,(if op≠0∨(lkB t.x l).isSome=true then ⟨#[]⟩ else t.x)=R:=⟨_,rfl⟩;have hu:dJ l (Ex.mk op t o ks)=R:=hR;rw[hu];clear hu hev;have hx:=he t.x;cases k:lkB t.x l with
 |none=>
  rw[k] at hx hR;have hg0:lO true (.agg [.int .i64 0, .int .i64 0, .str ⟨#[]⟩]) es none= .tup [.agg [.int .i64 0, .int .i64 0, .str ⟨#[]⟩], .bool false]:=rfl;by_cases h0:op=0
  ·have g:(op != 0)=false:=bnf;refine aue (e5 hn1 hn2 hx hg0 g) ?_;refine aC h' (leo hd) ⟨?_,rfl⟩;rw[if_neg (by simp[h0])] at hR;rw[←hR];rfl
  have g:(op != 0)=true:=bnt;refine aue (e5 hn1 hn2 hx hg0 g) ?_;refine aC h' (leo hd) ⟨?_,rfl⟩;rw[if_pos (Or.inl h0)] at hR;rw[←hR];rfl
 |some w=>
  rw[k] at hx hR;obtain⟨j,hj1,hj2,hj3⟩:=hx;have hg0:lO true (.agg [.int .i64 0, .int .i64 0, .str ⟨#[]⟩]) es (some j)= .tup [w.v, .bool true]:=by rw[←hj2];rfl
  have hwf:=Kd w;by_cases h0:op=0
  ·have g:(op != 0)=false:=bnf;refine aue (e6 hn1 hn2 hj1 hg0 g hwf) ?_;refine aC h' (leo hd) ⟨?_,rfl⟩;rw[if_pos Zm] at hR;rw[←hR];rfl
  have g:(op != 0)=true:=bnt;refine aue (e6 hn1 hn2 hj1 hg0 g hwf) ?_;refine aC h' (leo hd) ⟨?_,rfl⟩;rw[if_pos (Or.inl h0)] at hR;rw[←hR];rfl
def jy(l:List Tr)(x:ByteArray)(e:Ex):Option (List Tr)×Int:=if (bJ l 20 e).2≠0 then (none,(bJ l 20 e).2) else (some (l++[⟨x,(bJ l 20 e).1⟩]),0)
def nN(l:List Tr)(x:Li):Option (List Tr)×Int:=
 if x.op=1∧(dJ l x.x).size≠0 then jy l (dJ l x.x) x.y
 else if x.op=1∧(dJ l x.y).size≠0 then jy l (dJ l x.y) x.x
 else if (pQ l x).2≠0∨(pQ l x).1=false then (none,(pQ l x).2) else (some l,0)
def Hx(r:Option (List Tr)×Int)(nx:Nat)(v:V)(h':Hp)(nx':Nat):Prop:=match r.1 with
 |none=>v= .tup [.aAH, .bool false,eF r.2]
 |some l=>∃n es c,v= .tup [.map n, .bool true, .nilIface]∧nx≤n∧n<nx'∧h' n=some (.mp es c)∧sV es c l
theorem jl(l:List Tr)(x:ByteArray)(hx:lkB x l=none)(e:Ex)(hr:cR 20 e=true)(n:Nat)(es:List ME)(c:Nat)(h:Hp)(nx:Nat)(hm:h n=some (.mp es c))(he:sV es c l):
 aY Tryz.prog 103 [.map n, .str x,e.v] h nx fun v h' nx'=>Hx (jy l x e) nx v h' nx'∧∀k,k<nx→h' k=h k:=by
 refine aB L.bCl fun hd=>?_;refine ZK ?_;have hn2:n<nx:=hd _ _ hm;have CX:=fun h hm=>vE l 20 e hr n es c h hm he.at
 have hv:=rR (bJ l 20 e).2;unfold jy;generalize bJ l 20 e=P at*;have hfP:=Kd P.1;have hf:=Ex.aAA e;generalize e.v=X at*;refine aue hf ?_;refine aI (CX _ ?_) rfl (aL _) ?_
 ·simp only[hm,hn2,go_sem,reduceIte,jA,jB,jC,jD,reduceCtorEq,jE,jF]
 by_cases e1:P.2=0
 ·rw[decide_eq_true e1] at hv;rw[if_neg (by simp[e1])];refine aue (e2 hv hfP) ?_;refine bF ((nI n es c l he _ _ ?_).dom.mono ?_)
  ·simp only[hm,hn2,go_sem,reduceIte,jA,jB,jC,jD,reduceCtorEq,jE,jF]
  rintro v h2 nx2 hle ⟨⟨n2,es2,c2,rfl,p1,p2,p3,p4,p5⟩,hd2,_⟩;unfold cY;dsimp only at p1 p5;refine Zn ?_;have hx2:=p4.at x;rw[hx] at hx2;have hb9:h2 (nx+1)=some (.arr (.agg 3) [P.1.v]):=by rw[p5 (nx+1) or];simp only[go_sem,reduceIte,jA,jB,jC,jD,reduceCtorEq,jE,jF]
  have n9:nx+1<nx2:=or;have hk2:∀k,k<nx→h2 k=h k:=fun k hk=>by
   rw[p5 k or];simp only[Kc];repeat rw[if_neg or]
  refine aue (e3 hb9 hfP n9) ?_;refine oH (es:=es2) (c:=c2) (n:=n2) rfl rfl (by simp only[p3,go_sem,reduceIte,jA,jB,jC,jD,reduceCtorEq,jE,jF]) hx2 ?_;refine Zn ?_;refine au ?_;refine aU _ (Kb _) ⟨⟨n2,_,_,rfl,or,Zw,by simp only[Kc,if_true],p4.add ⟨x,P.1⟩ hx⟩,fun k hk=>?_⟩;simp only[Kc];rw[if_neg or];exact hk2 k hk
 rw[decide_eq_false e1] at hv;rw[if_pos e1];refine aue (e2 hv hfP) ?_;refine⟨_,Kb _,rfl,fun k hk=>?_⟩;simp only[Kc];repeat rw[if_neg or]
theorem rp(l:List Tr)(x:Li)(hr:bG x=true)(h3:x.k=3)(n:Nat)(es:List ME)(c:Nat)(h:Hp)(nx:Nat)(hm:h n=some (.mp es c))(he:sV es c l):
 aY Tryz.prog 60 [x.v, .map n] h nx fun v h' nx'=>Hx (nN l x) nx v h' nx'∧∀k,k<nx→h' k=h k:=by
 refine aB L.bDo fun hd=>?_;refine ZK ?_;have hn2:n<nx:=hd _ _ hm;obtain⟨p1,p6,px,py⟩:=oY hr h3;have C1:=fun h=>tI x hr h3 h;have UX:=fun h hm=>de l x.x n es c h hm he.at
 have UY:=fun h hm=>de l x.y n es c h hm he.at
 have TT:=fun h hm=>AY l x hr h3 n es c h hm he.at
 have hf:=Li.aAA x;have hXf:=Ex.aAA x.x;have hYf:=Ex.aAA x.y;have SX:=fun hz h nx hm=>jl l (dJ l x.x) (yY hz) x.y py n es c h nx hm he;have SY:=fun hz h nx hm=>jl l (dJ l x.y) (yY hz) x.x px n es c h nx hm he;obtain⟨T,hT,htx,hty,hto⟩:∃T,x.v= .agg T∧(.agg ((T.drop 4).take 6))=x.x.v∧(.agg ((T.drop 10).take 6))=x.y.v∧(V.agg T).cell 3= .int .i64 x.op:=⟨_,rfl,by rw[Ex.aAV];rfl,by rw[Ex.aAV];rfl,rfl⟩;have hlx:aX (.agg 6) 4 (.agg T)=x.x.v:=htx;have hly:aX (.agg 6) 10 (.agg T)=x.y.v:=hty;have hto:T.getD 3 (.tup [])= .int .i64 x.op:=hto;rw[hT] at C1 TT hf⊢;unfold nN;generalize dJ l x.x=A at*;generalize dJ l x.y=B at*;generalize pQ l x=R at*;generalize x.x.v=X at*;generalize x.y.v=Y at*;obtain⟨H,hH⟩:∃H,h.set nx (.arr (.agg 17) [.agg T])=H:=⟨_,rfl⟩;have hHn:H n=some (.mp es c):=by rw[←hH];simp only[Kc];rw[if_neg or];exact hm
 have D1:=UX H hHn;have D2:=UY H hHn;have TT:=TT H hHn;rw[←hH] at D1 D2 TT;generalize hDC:aR.draw _ _ _=DC;refine aue hf ?_;rw[←hDC];refine iD rfl ?_;have zA:=vI A;have zB:=vI B;refine aue (e3 hf hlx hXf) ?_;refine bM D1 rfl (aL _) ?_;refine aue (e3 hf hly hYf) ?_;refine bM D2 rfl (aL _) ?_;have hvR:=rR R.2;by_cases o1:x.op=1
 ·have g1:(x.op==1)=true:=bqt;by_cases hA:A.size=0
  ·rw[decide_eq_true hA] at zA;rw[if_neg (fun e=>e.2 hA)];by_cases hB:B.size=0
   ·rw[decide_eq_true hB] at zB;rw[if_neg (fun e=>e.2 hB)];refine aue (e5 hf hto g1 zA zB) ?_;refine aI TT rfl (aL _) ?_;by_cases hR2:R.2=0
    ·rw[decide_eq_true hR2] at hvR;cases hR1:R.1 with
     |true=>
      rw[if_neg (by simp[hR2])];refine aue (e2 hvR hR1) ?_;refine bF ((nI n es c l he _ _ ?_).dom.mono ?_)
      ·simp only[hm,hn2,go_sem,reduceIte,jA,jB,jC,jD,reduceCtorEq,jE,jF]
      rintro v h2 nx2 hle ⟨⟨n2,es2,c2,rfl,q1,q2,q3,q4,q5⟩,hd2,_⟩;unfold cY;dsimp only at q1 q5;refine Zn ?_;refine au ?_;refine aU _ (Kb _) ⟨⟨n2,es2,c2,rfl,or,Zw,q3,q4⟩,fun k hk=>?_⟩;refine(q5 k or).trans ?_;simp only[Kc];rw[if_neg or]
     |false=>
      rw[if_pos (.inr rfl)];refine aue (e2 hvR hR1) ?_;refine aU _ (Kb _) ⟨rfl,fun k hk=>?_⟩;simp only[Kc];rw[if_neg or]
    rw[decide_eq_false hR2] at hvR;rw[if_pos (.inl hR2)];refine aue hvR ?_;refine aU _ (Kb _) ⟨rfl,fun k hk=>?_⟩;simp only[Kc];rw[if_neg or]
   rw[decide_eq_false hB] at zB;rw[if_pos ⟨o1,hB⟩];refine aue (e7 hf hto g1 zA zB hlx hXf) ?_;refine bF ((SY hB _ _ ?_).dom.mono ?_)
   ·simp only[hm,hn2,go_sem,reduceIte,jA,jB,jC,jD,reduceCtorEq,jE,jF]
   rintro v h2 nx2 hle ⟨⟨q,hk⟩,hd2,_⟩;unfold cY;dsimp only at q hk;have hk2:∀k,k<nx→h2 k=h k:=fun k hkn=>by
    rw[hk k or];simp only[Kc];rw[if_neg or]
   obtain⟨⟨r,e⟩,hr⟩:∃r,jy l B x.x=r:=⟨_,rfl⟩;rw[hr] at q⊢;cases r with
   |none=>
    have q:v= .tup [.aAH, .bool false,eF e]:=q;subst q;refine Zn ?_;refine au ?_;exact aU _ (Kb _) ⟨rfl,hk2⟩
   |some l2=>
    obtain⟨n2,es2,c2,q1,q2,q3,q4,q5⟩:=q;subst q1;refine Zn ?_;refine au ?_;exact aU _ (Kb _) ⟨⟨n2,es2,c2,rfl,or,Zw,q4,q5⟩,hk2⟩
  rw[decide_eq_false hA] at zA;rw[if_pos ⟨o1,hA⟩];refine aue (e6 hf hto g1 zA hly hYf) ?_;refine bF ((SX hA _ _ ?_).dom.mono ?_)
  ·simp only[hm,hn2,go_sem,reduceIte,jA,jB,jC,jD,reduceCtorEq,jE,jF]
  rintro v h2 nx2 hle ⟨⟨q,hk⟩,hd2,_⟩;unfold cY;dsimp only at q hk;have hk2:∀k,k<nx→h2 k=h k:=fun k hkn=>by
   rw[hk k or];simp only[Kc];rw[if_neg or]
  obtain⟨⟨r,e⟩,hr⟩:∃r,jy l A x.y=r:=⟨_,rfl⟩;rw[hr] at q⊢;cases r with
  |none=>
   have q:v= .tup [.aAH, .bool false,eF e]:=q;subst q;refine Zn ?_;refine au ?_;exact aU _ (Kb _) ⟨rfl,hk2⟩
  |some l2=>
   obtain⟨n2,es2,c2,q1,q2,q3,q4,q5⟩:=q;subst q1;refine Zn ?_;refine au ?_;exact aU _ (Kb _) ⟨⟨n2,es2,c2,rfl,or,Zw,q4,q5⟩,hk2⟩
 have g1:(x.op==1)=false:=bqf;rw[if_neg (fun e=>o1 e.1),if_neg (fun e=>o1 e.1)];refine aue (e3 hf hto g1) ?_;refine aI TT rfl (aL _) ?_;by_cases hR2:R.2=0
 ·rw[decide_eq_true hR2] at hvR;cases hR1:R.1 with
  |true=>
   rw[if_neg (by simp[hR2])];refine aue (e2 hvR hR1) ?_;refine bF ((nI n es c l he _ _ ?_).dom.mono ?_)
   ·simp only[hm,hn2,go_sem,reduceIte,jA,jB,jC,jD,reduceCtorEq,jE,jF]
   rintro v h2 nx2 hle ⟨⟨n2,es2,c2,rfl,q1,q2,q3,q4,q5⟩,hd2,_⟩;unfold cY;dsimp only at q1 q5;refine Zn ?_;refine au ?_;refine aU _ (Kb _) ⟨⟨n2,es2,c2,rfl,or,Zw,q3,q4⟩,fun k hk=>?_⟩;refine(q5 k or).trans ?_;simp only[Kc];rw[if_neg or]
  |false=>
   rw[if_pos (.inr rfl)];refine aue (e2 hvR hR1) ?_;refine aU _ (Kb _) ⟨rfl,fun k hk=>?_⟩;simp only[Kc];rw[if_neg or]
 rw[decide_eq_false hR2] at hvR;rw[if_pos (.inl hR2)];refine aue hvR ?_;refine aU _ (Kb _) ⟨rfl,fun k hk=>?_⟩;simp only[Kc];rw[if_neg or]
end Go.Proofs.YtgbiopfghdilnaaGreatDoor
