/-
Texts of this proof,one behind the other. No conditions.
-/
import Derived.Test.YtgbiopfghdilnaaGreatDoorKd
import Derived.Test.YtgbiopfghdilnaaGreatDoorKf
import Derived.Test.YtgbiopfghdilnaaGreatDoorKj
import Derived.Test.YtgbiopfghdilnaaGreatDoorKl
import Derived.Test.YtgbiopfghdilnaaGreatDoorKg
open Go.Proofs.YtgbiopfghdilnaaGreatDoor.Vl renaming v→Ka,aAD→Kd
open Go.Proofs.YtgbiopfghdilnaaGreatDoor.Hp renaming le_refl→Kb,same→Kc,set→Kf
open List renaming drop_eq_getElem_cons→Ke,take_of_length_le→Kg,map_append→Kh,take_succ_eq_append_getElem→Ki,mem_map→Kj,map_cons→Kk,mem_cons→Km,map_nil→Kq,mem_singleton→Ks,drop_of_length_le→Kt,length_append→Kv,nodup_append→Kx,drop_length→Ky,mem_append→Kz,nodup_cons→KA,drop_zero→KC,drop→KF
open Nat renaming zero_le→Ko,lt_or_ge→Kp,le_refl→Ku
open Prod renaming fst→Kw
open Bool renaming not_false→KB,not_true→KD
open Option renaming map→KE
open Nat renaming reduceAdd→jA,reduceSub→jB,reduceLT→jC,reduceLeDiff→jD,reduceEqDiff→jE
open Int renaming reduceToNat→jF,toNat_natCast→jG,natCast_add→jH,natCast_one→jI,natCast_zero→jJ
open List renaming length_map→jK,length_cons→jL,length_nil→jM,replicate_succ→jN,replicate_zero→jO,cons_append→jP,nil_append→jQ
set_option linter.unusedSimpArgs false
set_option linter.unusedVariables false
set_option linter.unusedSectionVars false
set_option maxHeartbeats 8000000
namespace Go.Proofs.YtgbiopfghdilnaaGreatDoor
open Go.RowKit Go.Sort
attribute [local irreducible] IntKind.wrap
abbrev vls(o:Own)(l:List Vl):V:= .sl (.agg 3) o (l.map Ka)
abbrev TR:Type:=Own×List Vl
def TR.v(p:TR):V:=vls p.1 p.2
abbrev tps(o:Own)(l:List TR):V:= .sl .leaf o (l.map TR.v)
abbrev oD(l:List TR):List (List Vl):=l.map Prod.snd
def TR.ok(p:TR):Prop:=(p.1= .nil∧p.2=[])∨p.1= .free
def Rd(h:Hp)(v:V)(l:List Vl):Prop:=(∃o,v=vls o l)∨∃n tail,v= .rs n (.agg 3) 0 l.length∧h n=some (.arr (.agg 3) (l.map Ka++tail))
theorem w6(l:List Vl)(tail:List V)(i:Nat)(h:i<l.length):(l.map Ka++tail).getD i (.tup [])=l[i].v:=by
 rw[List.getD_eq_getElem?_getD,List.getElem?_append_left (by simpa using h)];simp[h]
theorem xi{α:Type}(c:α→α→Int)(a b:List α)(i:Nat)(h1:i<a.length)(h2:i<b.length)(h0:c a[i] b[i]=0):dZ c (a.drop i) (b.drop i)=dZ c (a.drop (i+1)) (b.drop (i+1)):=by
 rw[Ke h1,Ke h2];simp only[dZ,orC,h0,if_true]
set_option maxHeartbeats 2000000 in
theorem uU(o1:Own)(a b:List Vl)(ha:a.length≤1000000000)(v2:V)(h:Hp)(hv:Rd h v2 b):aM Tryz.prog 64 [vls o1 a,v2, .fn (.func 65) [] []] h (.int .i64 (qX a b)):=by
 refine aJ (fun L=>trivial) fun h' nx hh=>aB L.aUw fun hd=>?_;simp only[jL,jM,jA,jB,jN,jO,jP,jQ,V.undef];have hal:(a.map Ka).length=a.length:=jK ..;refine aue hal ?_
 refine aS (fun i:Nat=>aF 39 0 [(0,vls o1 a),(1,v2),(2, .fn (.func 65) [] []),(11,vls o1 a),(12, .int .i64 a.length),(13, .int .i64 i)])
  (fun i hp nx1=>i≤a.length∧i≤b.length∧qX a b=qX (a.drop i) (b.drop i)∧nx≤nx1∧aW hp nx1∧Kc nx h' hp)
  (fun i=>a.length-i) 0 ⟨Ko _,Ko _,rfl,Ku _,hd,Hp.same.aBb⟩ (by simp only[WkL,aF,jH,jI,jJ,go_sem,reduceIte,jA,jB,jC,jD,reduceCtorEq,jE,jF]) ?_
 rintro i hp nx1 ⟨hi,hib,hcm,hnx,hdm,hsm⟩;generalize hQ:bK _ _ _ _ _=Q0;simp only[aF,go_sem,reduceIte,jA,jB,jC,jD,reduceCtorEq,jE,jF];rcases Kp i a.length with hlt|hge
 ·have hc:decide ((i:Int)<(a.length:Int))=true:=dct;have hw:IntKind.i64.wrap ((i:Int)+1)=((i+1:Nat):Int):=wrp;have hg:(a.map Ka).getD i (.tup [])= .agg [.int .i64 a[i].k, .int .i64 a[i].n, .str a[i].s]:=aN Ka a i hlt;rcases Kp i b.length with hlb|hgb
  ·have hc2:decide ((b.length:Int)≤(i:Int))=false:=dcf;have hk:=fun h=>uq a[i] b[i] h;have hg2:(b.map Ka).getD i (.tup [])= .agg [.int .i64 b[i].k, .int .i64 b[i].n, .str b[i].s]:=aN Ka b i hlb;obtain⟨c,hcc⟩:∃c,r5 a[i] b[i]=c:=⟨_,rfl⟩;rw[hcc] at hk;have aAp:c≠0→qX a b=c:=fun h0=>by
    rw[hcm,Ke hlt,Ke hlb];simp only[qX,dZ,orC,hcc,if_neg h0]
   rcases hv with⟨o2,rfl⟩|⟨n,tail,rfl,hn⟩
   case' inl=>have E:=e9 hc hw hal hg hlt hc2 (@jK Vl V) jG (e2 hg2 hlb)
   case' inr=>
    have hn1:hp n=some (.arr (.agg 3) (b.map Ka++tail)):=by rw[hsm n (hd _ _ (hh _ _ hn rfl))];exact hh _ _ hn rfl
    have hn2:n<nx1:=hdm _ _ hn1;have hg3:(b.map Ka++tail).getD i (.tup [])= .agg [.int .i64 b[i].k, .int .i64 b[i].n, .str b[i].s]:=w6 b tail i hlb;have hl3:(b.map Ka++tail).length=b.length+tail.length:=Zm;have hl4:i<b.length+tail.length:=or;have E:=e12 hc hw hal hg hlt hc2 (@jK Vl V) jG hn1 hn2 hg3 (e4 hlb hl3 hl4 Nat.zero_add)
   all_goals
    refine aue E ?_;refine fX rfl (hk _) rfl (aK _) ?_;refine Zn ?_;by_cases h0:c=0
    ·have hc3:(c != 0)=false:=bnf;refine aue hc3 ?_;rw[←hQ];refine aue hw ?_;exact aG (i+1) or ⟨hlt,hlb,by rw[hcm,qX,xi r5 a b i hlt hlb (by rw[hcc];exact h0)],or,dmo hdm,kep hsm⟩ (by simp only[WkL,aF,jH,jI,jJ,hw,go_sem,reduceIte,jA,jB,jC,jD,reduceCtorEq,jE,jF])
    have hc3:(c != 0)=true:=bnt;refine aue hc3 ?_;rw[←hQ];refine au ?_;exact aC h' (lef hd (hsm.le hd (Kb _))) ⟨by rw[aAp h0]<;>rfl,rfl⟩
  have hc2:decide ((b.length:Int)≤(i:Int))=true:=dct;have hl2:∃m:Nat,m=b.length:=⟨_,rfl⟩;have aAp:qX a b=1:=by
   rw[hcm,Ke hlt,Kt hgb];rfl
  rcases hv with⟨o2,rfl⟩|⟨n,tail,rfl,hn⟩
  all_goals
   refine aue (e8 hc hw hal hg hlt hc2 (@jK Vl V) jG) ?_;rw[←hQ];refine au ?_;exact aC h' (lef hd (hsm.le hd (Kb _))) ⟨by rw[aAp]<;>rfl,rfl⟩
 have hc:decide ((i:Int)<(a.length:Int))=false:=dcf;have hia:i=a.length:=or;have aAp:qX a b=if a.length<b.length then-1 else 0:=by
  rw[hcm,hia,Ky];split
  ·rename_i k;rw[Ke k];rfl
  rw[Kt or];rfl
 by_cases hl:a.length<b.length
 ·have hc2:decide ((a.length:Int)<(b.length:Int))=true:=dct;rw[if_pos hl] at aAp;rcases hv with⟨o2,rfl⟩|⟨n,tail,rfl,hn⟩
  all_goals
   refine aue hc ?_;rw[←hQ];refine aue (e3 hc2 hal (@jK Vl V)) ?_;exact aC h' (lef hd (hsm.le hd (Kb _))) ⟨by rw[aAp]<;>rfl,rfl⟩
 have hc2:decide ((a.length:Int)<(b.length:Int))=false:=dcf;rw[if_neg hl] at aAp;rcases hv with⟨o2,rfl⟩|⟨n,tail,rfl,hn⟩
 all_goals
  refine aue hc ?_;rw[←hQ];refine aue (e3 hc2 hal (@jK Vl V)) ?_;exact aC h' (lef hd (hsm.le hd (Kb _))) ⟨by rw[aAp]<;>rfl,rfl⟩
theorem cq(o1:Own)(a b:List Vl)(ha:a.length≤1000000000)(v2:V)(h:Hp)(hv:Rd h v2 b):aM Tryz.prog 26 [vls o1 a,v2] h (.int .i64 (qX a b)):=by
 refine aJ (fun L=>trivial) fun h' nx hh=>aB L.aVR fun hd=>?_;simp only[jL,jM,jA,jB,jN,jO,jP,jQ,V.undef];refine au ?_;refine aH (uU o1 a b ha v2 h hv) rfl hh ?_;refine Zn ?_;refine au ?_;exact aC h' (leo hd) ⟨rfl,rfl⟩
theorem fz(a b:Vl):veq (.plain (.agg 3) [.int, .int, .str]) a.v b.v=some (decide (a=b)):=by
 have e:(decide (a=b))=(decide (a.k=b.k)&&(decide (a.n=b.n)&&decide (a.s=b.s))):=by
  rw[Bool.eq_iff_iff];cases a;cases b;simp
 rw[e];have e1:(a.k==b.k)=decide (a.k=b.k):=rfl;have e2:(a.n==b.n)=decide (a.n=b.n):=rfl;simp[Ka,pc,V.fits,V.aAE,fL,fN,eN,e1,e2]
theorem bc(o1 o2:Own)(a b:List Vl)(ha:a.length≤1000000000)(h:Hp):aM Tryz.prog 29 [vls o1 a,vls o2 b] h (.bool (decide (a=b))):=by
 refine aJ (fun L=>trivial) fun h' nx hh=>aB L.aVQ fun hd=>?_;simp only[jL,jM,jA,jB,jN,jO,jP,jQ,V.undef];by_cases hl:a.length=b.length
 ·have cl:((a.length:Int) != (b.length:Int))=false:=bnf;refine aue (e2 cl (@jK Vl V)) ?_;refine aS (fun i:Nat=>aF 26 0 [(0,vls o1 a),(1,vls o2 b),(12, .int .i64 a.length),(13, .int .i64 i)]) (fun i hp nx1=>i≤a.length∧nx≤nx1∧aW hp nx1∧Kc nx h' hp∧a.take i=b.take i) (fun i=>a.length-i) 0 ⟨Ko _,Ku _,hd,Hp.same.aBb,rfl⟩ (by simp only[WkL,aF,jH,jI,jJ,go_sem,reduceIte,jA,jB,jC,jD,reduceCtorEq,jE,jF]) ?_;rintro i hp nx1 ⟨hi,hnx,hdm,hsm,htk⟩;generalize hQ:bK _ _ _ _ _=Q0;simp only[aF,go_sem,reduceIte,jA,jB,jC,jD,reduceCtorEq,jE,jF];rcases Kp i a.length with hlt|hge
  ·have hc:decide ((i:Int)<(a.length:Int))=true:=dct;have hw:IntKind.i64.wrap ((i:Int)+1)=((i+1:Nat):Int):=wrp;have hlb:i<b.length:=or;have hg:=aN Ka a i hlt;have hg2:=aN Ka b i hlb;have hv:=fz a[i] b[i];have E:=e9 hc hw hg hg2 hv hlt hlb (@jK Vl V) (e2 jG Kd);cases he:decide (a[i]=b[i]) with
   |true=>
    have he':a[i]=b[i]:=of_decide_eq_true he;refine aue (e4 E he KD KB) ?_;rw[←hQ];exact aG (i+1) or ⟨hlt,or,dmo hdm,kep hsm,by rw[Ki hlt,Ki hlb,htk,he']⟩ (by simp only[WkL,aF,jH,jI,jJ,hw,go_sem,reduceIte,jA,jB,jC,jD,reduceCtorEq,jE,jF])
   |false=>
    have he':a[i]≠b[i]:=of_decide_eq_false he;refine aue (e4 E he KD KB) ?_;rw[←hQ];refine au ?_;refine aC h' (lef hd (hsm.le hd (Kb _))) ⟨?_,rfl⟩;have:a≠b:=fun e=>he' (by subst e;rfl);simp only[go_sem,reduceIte,jA,jB,jC,jD,reduceCtorEq,jE,jF];rw[decide_eq_false this]
  have hc:decide ((i:Int)<(a.length:Int))=false:=dcf;refine aue hc ?_;rw[←hQ];refine au ?_;refine aC h' (lef hd (hsm.le hd (Kb _))) ⟨?_,rfl⟩;have:a=b:=by rw[Kg or,Kg or] at htk;exact htk
  simp only[go_sem,reduceIte,jA,jB,jC,jD,reduceCtorEq,jE,jF];rw[decide_eq_true this]
 have cl:((a.length:Int) != (b.length:Int))=true:=bnt;refine aue (e2 cl (@jK Vl V)) ?_;refine aC h' (leo hd) ⟨?_,rfl⟩;have:a≠b:=fun e=>hl (by rw[e]);simp only[go_sem,reduceIte,jA,jB,jC,jD,reduceCtorEq,jE,jF];rw[decide_eq_false this]
def d8(n:Int):List Vl→Option Int
 | []=>some n
 |x::l=>if 2000<IntKind.i64.wrap (n+(x.s.size:Int)) then none else d8 (IntKind.i64.wrap (n+(x.s.size:Int))) l
def vK(n:Int):List (List Vl)→Bool
 | []=>false
 |t::l=>if 50<t.length then true else match d8 n t with
  |none=>true
  |some m=>vK m l
theorem d7:∀(l:List (List Vl)) (n:Int),vK n l=false→∀t∈l,t.length≤50
 | [],_,_=>Zm
 |t::l,n,h=>by
  unfold vK at h;split at h
  ·cases h
  rename_i h1;split at h
  ·cases h
  rename_i m _;intro q hq;rcases Km.1 hq with rfl|hq
  ·omega
  exact d7 l m h q hq
set_option maxHeartbeats 2000000 in
theorem wh(o:Own)(l:List TR)(hl:l.length≤1000000000)(h:Hp):aM Tryz.prog 20 [tps o l] h (.bool (vK 0 (oD l))):=by
 refine aJ (fun L=>trivial) fun h' nx hh=>aB L.g9z fun hd=>?_;simp only[jL,jM,jA,jB,jN,jO,jP,jQ,V.undef];refine aue (@jK TR V) ?_;refine aS (fun q:Nat×Int=>aF 32 0 [(3, .int .i64 q.2),(8,tps o l),(9, .int .i64 l.length),(10, .int .i64 q.1)]) (fun q hp nx1=>q.1≤l.length∧nx≤nx1∧aW hp nx1∧Kc nx h' hp∧vK 0 (oD l)=vK q.2 (oD (l.drop q.1))) (fun q=>l.length-q.1) (0,0) ⟨Ko _,Ku _,hd,Hp.same.aBb,rfl⟩ (by simp only[WkL,aF,jH,jI,jJ,go_sem,reduceIte,jA,jB,jC,jD,reduceCtorEq,jE,jF]) ?_;rintro⟨i,n⟩ hp nx1 ⟨hi,hnx,hdm,hsm,hto⟩;generalize hQ:bK _ _ _ _ _=Q0;dsimp only at hi hto;simp only[aF,go_sem,reduceIte,jA,jB,jC,jD,reduceCtorEq,jE,jF];have hle:=hsm.le hd (Kb _);rcases Kp i l.length with hlt|hge
 ·have hc:decide ((i:Int)<(l.length:Int))=true:=dct;have hw:IntKind.i64.wrap ((i:Int)+1)=((i+1:Nat):Int):=wrp;obtain⟨p,hpq⟩:∃p,l[i]=p:=⟨_,rfl⟩;have hg:(l.map TR.v).getD i (.tup [])=vls p.1 p.2:=by rw[aN TR.v l i hlt,hpq];rfl
  have hdr:oD (l.drop i)=p.2::oD (l.drop (i+1)):=by rw[Ke hlt,hpq];rfl
  rw[hdr,vK] at hto;by_cases aBh:50<p.2.length
  ·have cl:decide ((50:Int)<(p.2.length:Int))=true:=dct;rw[if_pos aBh] at hto;refine aue (e8 hc hw hg hlt (@jK TR V) (@jK Vl V) jG cl) ?_;rw[←hQ];refine au ?_;refine aC h' (lef hd hle) ⟨?_,rfl⟩;simp only[hto,go_sem,reduceIte,jA,jB,jC,jD,reduceCtorEq,jE,jF]
  have cl:decide ((50:Int)<(p.2.length:Int))=false:=dcf;rw[if_neg aBh] at hto;refine aue (e8 hc hw hg hlt (@jK TR V) (@jK Vl V) jG cl) ?_;refine aS (fun q:Nat×Int=>aF 32 0 [(3, .int .i64 q.2),(8,tps o l),(9, .int .i64 l.length),(10, .int .i64 i),(17,vls p.1 p.2),(18, .int .i64 p.2.length),(19, .int .i64 q.1)]) (fun q hp nx2=>q.1≤p.2.length∧nx≤nx2∧aW hp nx2∧Kc nx h' hp∧d8 n p.2=d8 q.2 (p.2.drop q.1)) (fun q=>p.2.length-q.1) (0,n) ⟨Ko _,hnx,hdm,hsm,rfl⟩ (by simp only[WkL,aF,jH,jI,jJ,go_sem,reduceIte,jA,jB,jC,jD,reduceCtorEq,jE,jF]) ?_;rintro⟨j,m⟩ hp2 nx2 ⟨hj,aSL,aFp,aBZ,aD4⟩;generalize hQ2:bK _ _ _ _ _=Q2;dsimp only at hj aD4;simp only[aF,go_sem,reduceIte,jA,jB,jC,jD,reduceCtorEq,jE,jF];have aAd:=aBZ.le hd (Kb _);rcases Kp j p.2.length with hlj|hgj
  ·have hcj:decide ((j:Int)<(p.2.length:Int))=true:=dct;have hwj:IntKind.i64.wrap ((j:Int)+1)=((j+1:Nat):Int):=wrp;have hgj:(p.2.map Ka).getD j (.tup [])= .agg [.int .i64 p.2[j].k, .int .i64 p.2[j].n, .str p.2[j].s]:=aN Ka p.2 j hlj;rw[Ke hlj,d8] at aD4;cases cb:decide (2000<IntKind.i64.wrap (m+(p.2[j].s.size:Int))) with
   |true=>
    rw[if_pos (of_decide_eq_true cb)] at aD4;rw[aD4] at hto;refine aue (e7 hcj hwj hgj hlj (@jK Vl V) jG cb) ?_;rw[←hQ2,←hQ];refine au ?_;refine aC h' (lef hd aAd) ⟨?_,rfl⟩;simp only[hto,go_sem,reduceIte,jA,jB,jC,jD,reduceCtorEq,jE,jF]
   |false=>
    rw[if_neg (of_decide_eq_false cb)] at aD4;refine aue (e7 hcj hwj hgj hlj (@jK Vl V) jG cb) ?_;rw[←hQ2];exact aG (j+1,_) Zw ⟨hlj,or,dmo aFp,kep aBZ,aD4⟩ (by simp only[WkL,aF,jH,jI,jJ,hwj,go_sem,reduceIte,jA,jB,jC,jD,reduceCtorEq,jE,jF])
  have hcj:decide ((j:Int)<(p.2.length:Int))=false:=dcf;rw[Kt hgj,d8] at aD4;rw[aD4] at hto;dsimp only at hto;refine aue hcj ?_;rw[←hQ2];clear hQ2 Q2;refine aue hw ?_;rw[←hQ];exact aG (i+1,m) Zw ⟨hlt,or,aFp,aBZ,hto⟩ (by simp only[WkL,aF,jH,jI,jJ,hw,go_sem,reduceIte,jA,jB,jC,jD,reduceCtorEq,jE,jF])
 have hc:decide ((i:Int)<(l.length:Int))=false:=dcf;rw[Kt hge] at hto;refine aue hc ?_;rw[←hQ];refine au ?_;refine aC h' (lef hd hle) ⟨?_,rfl⟩;rw[hto];rfl
set_option maxHeartbeats 4000000
def o7:Vl:=⟨0,0,⟨#[]⟩⟩
def cO(t:Tr)(l:List Tr):Vl×Int:=
 if t.x.size=0 then (if cC t.w=true then (t.w,0) else (o7,2))
 else match lkB t.x l with
  |some w=>if cC w=true then (w,0) else (o7,13)
  |none=>(o7,13)
theorem rB(t:Tr)(l:List Tr)(n:Nat)(es:List ME)(c:Nat)(h:Hp)(hm:h n=some (.mp es c))(he:vW es l):aM Tryz.prog 62 [t.v, .map n] h (.tup [(cO t l).1.v,dP (cO t l).2]):=by
 refine aJ (fun L=>⟨Vl.aAQ L _,dO L _,trivial⟩) fun h' nx hh=>aB L.aUy fun hd=>?_;simp only[jL,jM,jA,jB,jN,jO,jP,jQ,V.undef];have hn1:=hh _ _ hm rfl;have hn2:n<nx:=hd _ _ hn1;have h0:=rI t.x;unfold cO;by_cases h1:t.x.size=0
 ·have g1:decide (t.x.size=0)=true:=dct;rw[if_pos h1];have C1:∀h,aM Tryz.prog 54 [.agg [.int .i64 t.w.k, .int .i64 t.w.n, .str t.w.s]] h (.bool (cC t.w)):=fun h=>gB t.w h;cases k:cC t.w with
  |true=>
   rw[k] at C1;refine aue (e3 Tr.v.eq_1 h0 g1) ?_;refine bI (by simp only[go_sem,reduceIte,jA,jB,jC,jD,reduceCtorEq,jE,jF]) h' (leo hd) ⟨?_,rfl⟩;refine Zn ?_;rfl
  |false=>
   rw[k] at C1;refine aue (e3 Tr.v.eq_1 h0 g1) ?_;refine bI (by simp only[go_sem,reduceIte,jA,jB,jC,jD,reduceCtorEq,jE,jF]) h' (leo hd) ⟨?_,rfl⟩;refine Zn ?_;rfl
 have g1:decide (t.x.size=0)=false:=dcf;rw[if_neg h1];have hx:=he t.x;cases k:lkB t.x l with
 |none=>
  rw[k] at hx;have hg0:iX true (.agg [.int .i64 0, .int .i64 0, .str ⟨#[]⟩]) es none= .tup [.agg [.int .i64 0, .int .i64 0, .str ⟨#[]⟩], .bool false]:=rfl;refine aue (e7 Tr.v.eq_1 h0 g1 hn1 hn2 hx hg0) ?_;refine bI (by simp only[go_sem,reduceIte,jA,jB,jC,jD,reduceCtorEq,jE,jF]) h' (leo hd) ⟨?_,rfl⟩;refine Zn ?_;rfl
 |some w=>
  rw[k] at hx;obtain⟨j,hj1,hj2,hj3⟩:=hx;have hg0:iX true (.agg [.int .i64 0, .int .i64 0, .str ⟨#[]⟩]) es (some j)= .tup [w.v, .bool true]:=by rw[←hj2];rfl
  have C1:=fun h=>gB w h;have hwf:=Kd w;simp only;cases k2:cC w with
  |true=>
   rw[k2] at C1;refine aue (e8 Tr.v.eq_1 h0 g1 hn1 hn2 hj1 hg0 hwf) ?_;refine bI (by simp only[hwf,bC hwf,go_sem,reduceIte,jA,jB,jC,jD,reduceCtorEq,jE,jF]) h' (leo hd) ⟨?_,rfl⟩;simp only[hwf,bC hwf,go_sem,reduceIte,jA,jB,jC,jD,reduceCtorEq,jE,jF];rfl
  |false=>
   rw[k2] at C1;refine aue (e8 Tr.v.eq_1 h0 g1 hn1 hn2 hj1 hg0 hwf) ?_;refine bI (by simp only[go_sem,reduceIte,jA,jB,jC,jD,reduceCtorEq,jE,jF]) h' (leo hd) ⟨?_,rfl⟩;refine Zn ?_;rfl
set_option maxHeartbeats 4000000
def lH(l:List Tr):List Vl→List Tr→List Vl×Int
 |acc,[]=>(acc,0)
 |acc,t::r=>if (cO t l).2≠0 then ([],(cO t l).2) else lH l (acc++[(cO t l).1]) r
def lJ(a:Am)(l:List Tr):List Vl×Int:=if 6<a.l.length then ([],6) else lH l [] a.l
def okO(e:Int)(o:Own):Own:=if e=0 then o else .nil
theorem nA(l:List Tr)(acc:List Vl)(t:Tr)(r:List Tr):lH l acc (t::r)=if (cO t l).2≠0 then ([],(cO t l).2) else lH l (acc++[(cO t l).1]) r:=rfl
theorem vT(e:Int)(vs:List Vl)(L:Nat→Prop):(V.tup [.sl (.agg 3) (okO e .free) (vs.map Ka),dP e]).names L:=by
 refine⟨⟨?_,bB (fun x=>Vl.aAQ L x) _⟩,dO L _,trivial⟩;intro n k;unfold okO at k;split at k<;>cases k
theorem r9(a:Am)(l:List Tr)(n:Nat)(es:List ME)(c:Nat)(h:Hp)(hm:h n=some (.mp es c))(he:vW es l):aM Tryz.prog 59 [a.v, .map n] h (.tup [.sl (.agg 3) (okO (lJ a l).2 .free) ((lJ a l).1.map Ka),dP (lJ a l).2]):=by
 refine dV (fun L=>vT _ _ L) fun h' nx hh=>aB L.aU1 fun hd=>?_;obtain⟨r,o,ts⟩:=a;simp only[jL,jM,jA,jB,jN,jO,jP,jQ,V.undef];have hn1:=hh _ _ hm rfl;have hn2:n<nx:=hd _ _ hn1;unfold lJ;dsimp only;by_cases h6:6<ts.length
 ·have g1:decide ((6:Int)<(ts.length:Int))=true:=dct;rw[if_pos h6];refine aue (e4 Am.v.eq_1 trs.eq_1 g1 (@jK Tr V)) ?_;refine aV _ (Kb _) ⟨?_,leo hd⟩;refine Zn ?_;rfl
 have g1:decide ((6:Int)<(ts.length:Int))=false:=dcf;rw[if_neg h6];refine aue (e4 Am.v.eq_1 trs.eq_1 g1 (@jK Tr V)) ?_;generalize hRC:lP (lwp Tryz.prog ((aU.ops L.aCx).seq aU.ret)) _=RC
 refine aS (fun q:Nat×Nat×List Vl=>aF 42 0 [(1, .map n),(4, .sl (.agg 3) .nil []),(5, .nilIface),(6, .rs q.2.1 (.agg 3) 0 q.2.2.length),(21, .sl (.agg 4) o (ts.map Tr.v)),(22, .int .i64 ts.length),(23, .int .i64 q.1)])
  (fun q hp nx1=>q.1≤ts.length∧nx+1≤nx1∧aW hp nx1∧Kc nx h' hp∧(nx<q.2.1∧hp q.2.1=some (.arr (.agg 3) (q.2.2.map Ka)))∧lH l [] ts=lH l q.2.2 (ts.drop q.1)∧q.2.2.length≤q.1)
  (fun q=>ts.length-q.1) (0,nx+1,[]) ⟨Ko _,Zw,by exact dmo hd,by exact kep Hp.same.aBb,⟨Zw,by simp only[Kq,go_sem,reduceIte,jA,jB,jC,jD,reduceCtorEq,jE,jF]⟩,rfl,Ko _⟩ (by simp only[WkL,aF,jH,jI,jJ,jM,go_sem,reduceIte,jA,jB,jC,jD,reduceCtorEq,jE,jF]) ?_
 rintro⟨i,id,acc⟩ hp nx1 ⟨hi,hnx,hdm,hsm,⟨aGF,hid⟩,hmk,hlen⟩;generalize hQ:bK _ _ _ _ _=Q0;dsimp only at hi hid hmk hlen aGF;simp only[aF,go_sem,reduceIte,jA,jB,jC,jD,reduceCtorEq,jE,jF];have hle:=hsm.le hd (Kb _);have hme:hp n=some (.mp es c):=by rw[hsm n hn2];exact hn1
 have aCp:id<nx1:=hdm _ _ hid;rcases Kp i ts.length with hlt|hge
 ·have hc:decide ((i:Int)<(ts.length:Int))=true:=dct;have hg:=aN Tr.v ts i hlt;have hw:IntKind.i64.wrap ((i:Int)+1)=((i+1:Nat):Int):=wrp;have hdr:ts.drop i=ts[i]::ts.drop (i+1):=Ke hlt;have hn3:n<nx1:=or;rw[hdr] at hmk;generalize ts[i]=T at hg hmk;have hTf:=Tr.aAD T;have hVf:=Kd (cO T l).1;refine aue (e9 hc hg hlt hme hn3 (@jK Tr V) jG hw hTf) ?_;refine aH (rB T l n es c _ (by simp only[hme,hn3,go_sem,reduceIte,jA,jB,jC,jD,reduceCtorEq,jE,jF]) he) rfl (aK _) ?_;refine Zn ?_;rw[nA] at hmk;by_cases hz:(cO T l).2=0
  ·rw[if_neg (by simp[hz])] at hmk;rw[hz];have hml:(acc.map Ka).length=acc.length:=jK ..;have htk:(acc.map Ka).take acc.length=acc.map Ka:=Kg Zm;have aM3:acc.length≤1000000:=or;refine aue (e9 Ai hVf hw hid aCp hml htk aM3 hc) ?_;rw[←hQ];exact aG (i+1,nx1+5,acc++[(cO T l).1]) Zw ⟨hlt,or,dmo hdm,kep hsm,⟨Zw,by simp only[Kh,Kk,Kq,go_sem,reduceIte,jA,jB,jC,jD,reduceCtorEq,jE,jF]⟩,hmk,by dsimp only;rw[Kv];simp only[jL,jM];omega⟩ (by simp only[WkL,aF,jH,jI,jJ,Kv,jL,jM,go_sem,reduceIte,jA,jB,jC,jD,reduceCtorEq,jE,jF])
  rw[if_pos hz] at hmk;have hev:dP (cO T l).2= .iface 100 (.int .i64 (cO T l).2):=by unfold dP;rw[if_neg hz]
  refine aue (e2 hev hVf) ?_;rw[←hQ,←hRC];refine au ?_;refine aV _ (Kb _) ⟨?_,lef hd hle⟩;refine Zn ?_;rw[hmk];unfold okO;rw[if_neg hz,hev];rfl
 have hc:decide ((i:Int)<(ts.length:Int))=false:=dcf;refine aue hc ?_;rw[←hQ];refine au ?_;have hie:i=ts.length:=or;rw[hie,Ky] at hmk;simp only[lH] at hmk;rw[←hRC];refine fF (iI (t:=6) (n:=id) (k:= .agg 3) (off:=0) (len:=acc.length) (es:=acc.map Ka) rfl hid Zm) ?_;have htk:(KF 0 (acc.map Ka)).take acc.length=acc.map Ka:=by rw[KC];exact Kg Zm
 rw[htk];refine au ?_;refine aV _ (Kb _) ⟨?_,?_⟩
 ·refine Zn ?_;rw[hmk];rfl
 refine fun m b e=>?_;have:=hd _ _ e;simp only[Hp.del];rw[if_neg or];exact hle m b e
set_option maxHeartbeats 4000000
structure EE where
 x:ByteArray
 w:Vl
 b:Nat
def EE.me(e:EE):ME:=⟨.str e.x,e.w.v,e.b⟩
def EE.p(e:EE):ByteArray×Vl:=(e.x,e.w)
def sf(es:List ME)(c:Nat)(L:List EE):Prop:=es=L.map EE.me∧(L.map EE.b).Nodup∧∀e∈L,e.b<c
def lkP(x:ByteArray):List (ByteArray×Vl)→Option Vl
 | []=>none
 |a::r=>if a.1=x then some a.2 else lkP x r
theorem tt(x:ByteArray)(a:ByteArray×Vl):∀l,lkP x (l++[a])=(match lkP x l with
 |some w=>some w
 |none=>if a.1=x then some a.2 else none)
 | []=>by simp[lkP]
 |b::l=>by
  simp only[jP,lkP];split
  ·rfl
  exact tt x a l
theorem zo{x:ByteArray}:∀{l:List (ByteArray×Vl)},(∀e∈l,e.1≠x)→lkP x l=none
 | [],_=>rfl
 |b::l,h=>by
  unfold lkP;rw[if_neg (h b List.mem_cons_self)];exact zo fun e he=>h e (List.mem_cons_of_mem _ he)
theorem l5{x:ByteArray}:∀{l:List (ByteArray×Vl)},lkP x l=none→∀e∈l,e.1≠x
 |b::l,h,e,he=>by
  unfold lkP at h;split at h
  ·cases h
  rename_i hb;rcases Km.1 he with rfl|he
  ·exact hb
  exact l5 h e he
def pV(es:List ME)(c:Nat)(l:List Tr):Prop:=∃L:List EE,sf es c L∧(L.map EE.x).Nodup∧∀x,lkP x (L.map EE.p)=lkB x l
theorem Au(x:ByteArray):∀L:List EE,(match lkP x (L.map EE.p) with
 |none=>bO (.plain .leaf [.str]) (.str x) (L.map EE.me)=some none
 |some w=>∃j,bO (.plain .leaf [.str]) (.str x) (L.map EE.me)=some (some j)∧((L.map EE.me).getD j default).v=w.v∧j<(L.map EE.me).length)
 | []=>rfl
 |e::L=>by
  have ih:=Au x L;simp only[Kk,lkP,bO,EE.me,EE.p];rw[sv];by_cases h:e.x=x
  ·rw[if_pos h,decide_eq_true h.symm];exact⟨0,rfl,rfl,Zm⟩
  rw[if_neg h,decide_eq_false (fun q=>h q.symm)];cases hk:lkP x (L.map EE.p) with
  |none=>
   rw[hk] at ih;show KE _ (bO _ _ (L.map EE.me))=_;rw[ih];rfl
  |some w=>
   rw[hk] at ih;obtain⟨j,h1,h2,h3⟩:=ih;refine⟨j+1,?_,h2,by simpa using h3⟩;show KE _ (bO _ _ (L.map EE.me))=_;rw[h1];rfl
theorem pV.at{es:List ME}{c:Nat}{l:List Tr}(h:pV es c l):vW es l:=fun x=>by
 obtain⟨L,⟨rfl,_,_⟩,_,hl⟩:=h;rw[←hl x];exact Au x L
theorem Aj:pV [] 0 []:=⟨[],⟨rfl,Zm,Zm⟩,Zm,fun x=>rfl⟩
theorem sf.add{es:List ME}{c:Nat}{L:List EE}(h:sf es c L)(x:ByteArray)(w:Vl):sf (es++[⟨.str x,w.v,c⟩]) (c+1) (L++[⟨x,w,c⟩]):=by
 obtain⟨rfl,h2,h3⟩:=h;refine⟨by rw[Kh];rfl,?_,fun e he=>?_⟩
 ·rw[Kh,Kx];refine⟨h2,Zm,fun a ha b hb=>?_⟩;obtain⟨e,he,rfl⟩:=Kj.1 ha;simp only[Kk,Kq,Ks] at hb;subst hb;have:=h3 e he;omega
 rcases Kz.1 he with he|he
 ·have:=h3 e he;omega
 rw[Ks] at he;subst he;exact Nat.lt_succ_self c
theorem pV.add{es:List ME}{c:Nat}{l:List Tr}(h:pV es c l)(t:Tr)(hn:lkB t.x l=none):pV (es++[⟨.str t.x,t.w.v,c⟩]) (c+1) (l++[t]):=by
 obtain⟨L,hL,hx,hl⟩:=h;have hno:∀e∈L,e.x≠t.x:=fun e he=>l5 ((hl t.x).trans hn) e.p (Kj.2 ⟨e,he,rfl⟩);refine⟨L++[⟨t.x,t.w,c⟩],hL.add t.x t.w,?_,fun x=>?_⟩
 ·rw[Kh,Kx];refine⟨hx,Zm,fun a ha b hb=>?_⟩;obtain⟨e,he,rfl⟩:=Kj.1 ha;simp only[Kk,Kq,Ks] at hb;subst hb;exact hno e he
 rw[Kh,Kk,Kq,tt,tu,←hl x];rfl
theorem zn{A B:List (ByteArray×Vl)}(h:A.Perm B)(hn:(A.map Kw).Nodup)(x:ByteArray):lkP x A=lkP x B:=by
 have key:∀{C:List (ByteArray×Vl)},(C.map Kw).Nodup→∀w,lkP x C=some w↔(x,w)∈C:=by
  intro C hC w;induction C with
  |nil=>simp[lkP]
  |cons a C ih=>
   rw[Kk,KA] at hC;unfold lkP;split
   ·rename_i e;simp only[Option.some.injEq,Km];constructor
    ·rintro rfl;exact .inl (by rw[←e])
    rintro(h|h)
    ·rw[←h]
    exact absurd (Kj.2 ⟨_,h,rfl⟩) (by rw[e] at hC;exact hC.1)
   rename_i e;rw[ih hC.2,Km];exact⟨.inr,fun h=>h.elim (fun h=>absurd (by rw[←h]) e) id⟩
 have hn2:(B.map Kw).Nodup:=(h.map Kw).nodup_iff.1 hn;cases hA:lkP x A with
 |some w=>exact((key hn2 w).2 (h.mem_iff.1 ((key hn w).1 hA))).symm
 |none=>
  cases hB:lkP x B with
  |none=>rfl
  |some w=>rw[(key hn w).2 (h.mem_iff.2 ((key hn2 w).1 hB))] at hA;cases hA
theorem Ak:∀{l:List EE},(l.map EE.x).Nodup→∀{a b:EE},a∈l→b∈l→a.x=b.x→a=b
 |c::l,hn,a,b,ha,hb,h=>by
  rw[Kk,KA] at hn;rcases Km.1 ha with rfl|h1
  ·rcases Km.1 hb with rfl|h2
   ·rfl
   exact absurd (Kj.2 ⟨b,h2,h.symm⟩) hn.1
  rcases Km.1 hb with rfl|h2
  ·exact absurd (Kj.2 ⟨a,h1,h⟩) hn.1
  exact Ak hn.2 h1 h2 h
theorem lf(m n:Nat)(es0:List ME)(c0:Nat)(L0:List EE)(h0:sf es0 c0 L0)(hx0:(L0.map EE.x).Nodup)(h:Hp)(nx:Nat)(hmn:m≠n)(hm:h m=some (.mp es0 c0))(hn:h n=some (.mp [] 0)):
 aQ Tryz.prog 150 [.map n, .map m] h nx fun v h' nx'=>∃es c L,h' n=some (.mp es c)∧sf es c L∧(L.map EE.p).Perm (L0.map EE.p)∧∀k,k<nx→k≠n→h' k=h k:=by
 refine aB L.aTp fun hd=>?_;simp only[jL,jM,jA,jB,jN,jO,jP,jQ,V.undef];have hmx:=hd _ _ hm;have hnx:=hd _ _ hn;obtain⟨rfl,hb0,hc0⟩:=h0;refine au ?_;refine zg rfl hm ?_;refine au ?_
 refine aS (fun q:List EE×List EE×List ME×Nat=>aF 16 0 [(0, .map n),(7, .ptr nx .leaf 0 0)])
  (fun q hp nx1=>nx<nx1∧hp m=some (.mp (L0.map EE.me) c0)∧hp nx=some (.mit m c0 (q.1.map EE.b) c0)∧hp n=some (.mp q.2.2.1 q.2.2.2)∧sf q.2.2.1 q.2.2.2 q.2.1∧q.2.1.map EE.p=q.1.map EE.p∧(q.1.map EE.b).Nodup∧(∀y∈q.1,y∈L0)∧∀k,k<nx→k≠n→hp k=h k)
  (fun q=>L0.length-q.1.length) ([],[],[],0) ⟨Zw,by simp only[hm,(fls:(m=nx)=False),go_sem,reduceIte,jA,jB,jC,jD,reduceCtorEq,jE,jF],by simp only[go_sem,reduceIte,jA,jB,jC,jD,reduceCtorEq,jE,jF],by simp only[hn,(fls:(n=nx)=False),go_sem,reduceIte,jA,jB,jC,jD,reduceCtorEq,jE,jF],⟨rfl,Zm,Zm⟩,rfl,Zm,Zm,fun k hk _=>by simp only[Kf];rw[if_neg or]⟩ (by simp only[WkL,aF,jH,jI,jJ,go_sem,reduceIte,jA,jB,jC,jD,reduceCtorEq,jE,jF]) ?_
 rintro⟨js,L,es,c⟩ hp nx1 ⟨q1,q2,q3,q4,q5,q6,q7,q8,q9⟩;generalize hQ:bK _ _ _ _ _=Q0;dsimp only at q3 q4 q5 q6 q7 q8;simp only[aF,go_sem,reduceIte,jA,jB,jC,jD,reduceCtorEq,jE,jF];refine au ?_;refine zh rfl q3 q2 (fun e he=>by obtain⟨y,hy,rfl⟩:=Kj.1 he;exact hc0 y hy) (Ku _) ?_ ?_
 ·intro e he hns;obtain⟨y,hy,rfl⟩:=Kj.1 he;have hns:y.b∉js.map EE.b:=hns;have hno:∀z∈js,z.x≠y.x:=fun z hz e=>hns (by rw[←Ak hx0 (q8 z hz) hy e];exact Kj.2 ⟨z,hz,rfl⟩);have hf:bO (.plain .leaf [.str]) (.str y.x) es=some none:=by
   have:=Au y.x L;rw[←q5.1,q6,zo (fun e he=>by obtain⟨z,hz,rfl⟩:=Kj.1 he;exact hno z hz)] at this;exact this
  have hwf:=Kd y.w;simp only[EE.me];refine au ?_;refine zi (b:=y.b) (e:=y.me) (m:=m) (since:=c0) (c:=c0) (es:=L0.map EE.me) (seen:=js.map EE.b++[y.b]) rfl (by simp only[go_sem,reduceIte,jA,jB,jC,jD,reduceCtorEq,jE,jF]) (by simp only[q2,(fls:(m=nx)=False),go_sem,reduceIte,jA,jB,jC,jD,reduceCtorEq,jE,jF]) Zm (Bf EE.me (by exact hb0) hy) ?_;simp only[EE.me];refine aue hwf ?_;refine mK (es:=es) (c:=c) (n:=n) rfl rfl (by simp only[q4,(fls:(n=nx)=False),(fls:(n=nx1+1)=False),(fls:(n=nx1+2)=False),(fls:(n=nx1)=False),go_sem,reduceIte,jA,jB,jC,jD,reduceCtorEq,jE,jF]) hf ?_;refine Zn ?_;refine au ?_;rw[←hQ];have aSH:=vt EE.b q7 q8 hy hns;refine aG (js++[y],L++[⟨y.x,y.w,c⟩],es++[⟨.str y.x,y.w.v,c⟩],c+1) (by dsimp only;rw[Kv,jL,jM];omega) ⟨or,?_,?_,by simp only[go_sem,reduceIte,jA,jB,jC,jD,reduceCtorEq,jE,jF],q5.add y.x y.w,by rw[Kh,Kh,q6];rfl,by exact y6 EE.b q7 hns,fun z hz=>?_,fun k hk hkn=>?_⟩ (by simp only[WkL,aF,jH,jI,jJ,go_sem,reduceIte,jA,jB,jC,jD,reduceCtorEq,jE,jF])
  ·simp only[q2,(fls:(m=n)=False),(fls:(m=nx)=False),(fls:(m=nx1+2)=False),go_sem,reduceIte,jA,jB,jC,jD,reduceCtorEq,jE,jF]
  ·simp only[(fls:(nx=n)=False),(fls:(nx=nx1+2)=False),Kh,Kk,Kq,go_sem,reduceIte,jA,jB,jC,jD,reduceCtorEq,jE,jF]
  ·rcases Kz.1 hz with hz|hz
   ·exact q8 z hz
   rw[Ks] at hz;subst hz;exact hy
  simp only[Kf];rw[if_neg hkn,if_neg or,if_neg or,if_neg or];exact q9 k hk hkn
 intro aAj;refine au ?_;rw[←hQ];refine au ?_;refine⟨hp,Kb _,es,c,L,q4,q5,?_,q9⟩;rw[q6];exact(A0 EE.b hb0 q7 q8 fun y hy=>aAj y.me (Kj.2 ⟨y,hy,rfl⟩)).map _
theorem lN(m:Nat)(es0:List ME)(c0:Nat)(l:List Tr)(h0:pV es0 c0 l)(h:Hp)(nx:Nat)(hm:h m=some (.mp es0 c0)):
 aQ Tryz.prog 100 [.map m] h nx fun v h' nx'=>∃n es c,v= .map n∧nx≤n∧n<nx'∧h' n=some (.mp es c)∧pV es c l∧∀k,k<nx→h' k=h k:=by
 refine aB L.aUe fun hd=>?_;have hmx:=hd _ _ hm;obtain⟨L0,hL,hx,hl⟩:=h0;have e:∀L:List EE,(L.map EE.p).map Kw=L.map EE.x:=fun L=>by rw[List.map_map];rfl
 simp only[jL,jM,jA,jB,jN,jO,jP,jQ,V.undef];refine au ?_;refine sC ?_;refine au ?_;refine bG ((lf m nx es0 c0 L0 hL hx _ (nx+1) or (by simp only[hm,(fls:(m=nx)=False),go_sem,reduceIte,jA,jB,jC,jD,reduceCtorEq,jE,jF]) (by simp only[go_sem,reduceIte,jA,jB,jC,jD,reduceCtorEq,jE,jF])).dom.mono ?_);rintro v h2 nx2 hle ⟨⟨es,c,L,p1,p2,p3,p4⟩,hd2,_⟩;unfold cN;refine Zn ?_;refine au ?_;refine aC h2 (Kb _) ⟨nx,es,c,rfl,Ku _,Zw,p1,⟨L,p2,?_,fun x=>?_⟩,fun k hk=>?_⟩
 ·have:=(p3.map Kw).nodup_iff;rw[e,e] at this;exact this.2 hx
 ·rw[←hl x];exact zn p3 (by
   have:=(p3.map Kw).nodup_iff;rw[e,e] at this;rw[e];exact this.2 hx) x
 rw[p4 k or or];simp only[Kf];rw[if_neg or]
set_option maxHeartbeats 4000000
def iS:List ByteArray→List Vl→List Tr
 |x::xs,v::vs=>⟨x,v⟩::iS xs vs
 |_,_=>[]
def jS(l:List Tr)(vars:List ByteArray):List Vl:=vars.map fun x=>(lkB x l).getD gR
theorem fe:∀(xs:List ByteArray) (vs:List Vl) (i:Nat) (h1:i<xs.length) (h2:i<vs.length),iS (xs.take (i+1)) (vs.take (i+1))=iS (xs.take i) (vs.take i)++[⟨xs[i],vs[i]⟩]
 |x::xs,v::vs,0,_,_=>by simp[iS]
 |x::xs,v::vs,i+1,h1,h2=>by
  simp only[List.take_succ_cons,iS,List.getElem_cons_succ,jP];rw[fe xs vs i (by simpa using h1) (by simpa using h2)]
theorem t8{x:ByteArray}:∀{xs:List ByteArray} {vs:List Vl},x∉xs→lkB x (iS xs vs)=none
 | [],_,_=>rfl
 |_::_,[],_=>rfl
 |y::xs,v::vs,h=>by
  simp only[Km,not_or] at h;unfold iS lkB;rw[if_neg (fun e=>h.1 e.symm)];exact t8 h.2
theorem vh{l:List ByteArray}(h:l.Nodup){i:Nat}(hi:i<l.length):l[i]∉l.take i:=by
 have h2:(l.take (i+1)).Nodup:=(List.take_sublist _ _).nodup h;rw[Ki hi,Kx] at h2;exact fun e=>h2.2.2 _ e _ (Ks.2 rfl) rfl
theorem xY(o1 o2:Own)(xs:List ByteArray)(vs:List Vl)(hn:xs.Nodup)(hl:xs.length≤1000000000)(h:Hp)(nx:Nat):
 aQ Tryz.prog 57 [.sl .leaf o1 (xs.map V.str),vls o2 vs] h nx fun v h' nx'=>(if xs.length=vs.length then∃n es c,v= .tup [.map n, .nilIface]∧nx≤n∧n<nx'∧h' n=some (.mp es c)∧pV es c (iS xs vs) else v= .tup [.aAH,dP 6])∧∀k,k<nx→h' k=h k:=by
 refine aB L.aU3 fun hd=>?_;have hd:aW h nx:=hd;simp only[jL,jM,jA,jB,jN,jO,jP,jQ,V.undef];by_cases hne:xs.length=vs.length
 ·simp only[if_pos hne];have g:((xs.length:Int) != (vs.length:Int))=false:=bnf;refine aue (e3 g (@jK ByteArray V) (@jK Vl V)) ?_;refine sC ?_;refine aue (e2 (@jK ByteArray V) (@jK Vl V)) ?_
  refine aS (fun i:Nat=>aF 31 0 [(1,vls o2 vs),(4, .aAH),(5, .nilIface),(6, .map nx),(16, .sl .leaf o1 (xs.map V.str)),(17, .int .i64 xs.length),(18, .int .i64 i)])
   (fun i hp nx1=>i≤xs.length∧nx<nx1∧aW hp nx1∧(∀k,k<nx→hp k=h k)∧∃es c,hp nx=some (.mp es c)∧pV es c (iS (xs.take i) (vs.take i)))
   (fun i=>xs.length-i) 0 ⟨Ko _,Zw,by exact dmo hd,fun k hk=>by simp only[Kf];rw[if_neg or],[],0,by simp only[go_sem,reduceIte,jA,jB,jC,jD,reduceCtorEq,jE,jF],Aj⟩ (by simp only[WkL,aF,jH,jI,jJ,jK,go_sem,reduceIte,jA,jB,jC,jD,reduceCtorEq,jE,jF]) ?_
  rintro i hp nx1 ⟨hi,hnx,hdm,hsm,es,c,hmp,aDU⟩;generalize hQ:bK _ _ _ _ _=Q0;simp only[aF,go_sem,reduceIte,jA,jB,jC,jD,reduceCtorEq,jE,jF];rcases Kp i xs.length with hlt|hge
  ·have hlv:i<vs.length:=or;have hc:decide ((i:Int)<(xs.length:Int))=true:=dct;have hg:=aN V.str xs i hlt;have hg2:=aN Ka vs i hlv;have hw:IntKind.i64.wrap ((i:Int)+1)=((i+1:Nat):Int):=wrp;have htk:=fe xs vs i hlt hlv;have hno:lkB xs[i] (iS (xs.take i) (vs.take i))=none:=t8 (vh hn hlt);have hx:=aDU.at xs[i];rw[hno] at hx;have hvf:=Kd vs[i];refine aue (e10 hc hg hg2 hlt hlv hvf (@jK ByteArray V) (@jK Vl V) jG hmp) ?_;refine mK (es:=es) (c:=c) (n:=nx) rfl rfl (by simp only[hmp,hnx,go_sem,reduceIte,jA,jB,jC,jD,reduceCtorEq,jE,jF]) hx ?_;refine Zn ?_;refine aue hw ?_;rw[←hQ];exact aG (i+1) or ⟨hlt,or,dmo hdm,fun k hk=>by simp only[Kf];rw[if_neg or];exact hsm k hk,_,_,by simp only[go_sem,reduceIte,jA,jB,jC,jD,reduceCtorEq,jE,jF];rfl,by rw[htk];exact aDU.add ⟨xs[i],vs[i]⟩ hno⟩ (by simp only[WkL,aF,jH,jI,jJ,go_sem,reduceIte,jA,jB,jC,jD,reduceCtorEq,jE,jF])
  have hc:decide ((i:Int)<(xs.length:Int))=false:=dcf;refine aue hc ?_;rw[←hQ];refine au ?_;rw[Kg or,Kg or] at aDU;exact aV hp (Kb _) ⟨⟨nx,es,c,rfl,Ku _,hnx,hmp,aDU⟩,hsm⟩
 simp only[if_neg hne];have g:((xs.length:Int) != (vs.length:Int))=true:=bnt;refine aue (e3 g (@jK ByteArray V) (@jK Vl V)) ?_;exact aV _ (Kb _) ⟨rfl,fun k hk=>rfl⟩
theorem tM(o:Own)(xs:List ByteArray)(hl:xs.length≤1000000000)(l:List Tr)(n:Nat)(es:List ME)(c:Nat)(h:Hp)(hm:h n=some (.mp es c))(he:vW es l):aM Tryz.prog 61 [.sl .leaf o (xs.map V.str), .map n] h (.sl (.agg 3) .free ((jS l xs).map Ka)):=by
 refine dV (fun L=>⟨fun n e=>(by cases e),bB (fun x=>Vl.aAQ L x) _⟩) fun h' nx hh=>aB L.aUz fun hd=>?_;have hd:aW h' nx:=hd;simp only[jL,jM,jA,jB,jN,jO,jP,jQ,V.undef];have hn1:=hh _ _ hm rfl;have hn2:n<nx:=hd _ _ hn1;have hcap:xs.length*32≤140737488355328:=or;refine aue (e3 (@jK ByteArray V) hcap jG) ?_;generalize hRC:lP (lwp Tryz.prog _) _=RC
 refine aS (fun q:Nat×Nat=>aF 25 0 [(1, .map n),(4, .sl (.agg 3) .nil []),(5, .rs q.2 (.agg 3) 0 q.1),(11, .sl .leaf o (xs.map V.str)),(12, .int .i64 xs.length),(13, .int .i64 q.1)])
  (fun q hp nx1=>q.1≤xs.length∧nx<nx1∧aW hp nx1∧Kc nx h' hp∧nx≤q.2∧hp q.2=some (.arr (.agg 3) ((jS l (xs.take q.1)).map Ka)))
  (fun q=>xs.length-q.1) (0,nx) ⟨Ko _,Zw,by exact dmo hd,by exact kep Hp.same.aBb,Zw,by simp only[List.take_zero,jS,Kq,go_sem,reduceIte,jA,jB,jC,jD,reduceCtorEq,jE,jF]⟩ (by simp only[WkL,aF,jH,jI,jJ,jK,go_sem,reduceIte,jA,jB,jC,jD,reduceCtorEq,jE,jF]) ?_
 rintro⟨i,id⟩ hp nx1 ⟨hi,hnx,hdm,hsm,aGF,hid⟩;generalize hQ:bK _ _ _ _ _=Q0;dsimp only at hi aGF hid;simp only[aF,go_sem,reduceIte,jA,jB,jC,jD,reduceCtorEq,jE,jF];have hme:hp n=some (.mp es c):=(hsm n hn2).trans hn1;have aCp:id<nx1:=hdm _ _ hid;rcases Kp i xs.length with hlt|hge
 ·have hc:decide ((i:Int)<(xs.length:Int))=true:=dct;have hg:=aN V.str xs i hlt;have hw:IntKind.i64.wrap ((i:Int)+1)=((i+1:Nat):Int):=wrp;have hn3:n<nx1:=or;have hrs:jS l (xs.take (i+1))=jS l (xs.take i)++[(lkB xs[i] l).getD gR]:=by
   unfold jS;rw[Ki hlt,Kh];rfl
  have hrl:(jS l (xs.take i)).length=i:=by unfold jS;rw[jK,List.length_take];omega
  have hx:=he xs[i];obtain⟨q,hq,aBF⟩:∃q,bO (.plain .leaf [.str]) (.str xs[i]) es=some q∧iX false (.agg [.int .i64 0, .int .i64 0, .str ⟨#[]⟩]) es q=((lkB xs[i] l).getD gR).v:=by
   cases k:lkB xs[i] l with
   |none=>rw[k] at hx;exact⟨none,hx,rfl⟩
   |some w=>
    rw[k] at hx;obtain⟨j,hj1,hj2,hj3⟩:=hx;exact⟨some j,hj1,hj2⟩
  generalize (lkB xs[i] l).getD gR=w at hrs aBF;generalize jS l (xs.take i)=W at*;have hml:(W.map Ka).length=i:=by rw[jK];exact hrl
  have htk:(W.map Ka).take i=W.map Ka:=Kg or;have hwf:=Kd w;refine aue (e12 hc hg hlt hw hme hn3 hq aBF hid aCp hml (e3 htk hwf (@jK ByteArray V))) ?_;rw[←hQ];exact aG (i+1,nx1+1) Zw ⟨hlt,or,dmo hdm,kep hsm,Zw,by dsimp only;rw[hrs,Kh];simp only[Kk,Kq,go_sem,reduceIte,jA,jB,jC,jD,reduceCtorEq,jE,jF]⟩ (by simp only[WkL,aF,jH,jI,jJ,go_sem,reduceIte,jA,jB,jC,jD,reduceCtorEq,jE,jF])
 have hc:decide ((i:Int)<(xs.length:Int))=false:=dcf;refine aue hc ?_;rw[←hQ];refine au ?_;rw[Kg or] at hid;have hie:i=xs.length:=or;rw[hie];rw[←hRC];have hrl:((jS l xs).map Ka).length=xs.length:=by unfold jS;rw[jK,jK]
 refine fF (iI (t:=5) (n:=id) (k:= .agg 3) (off:=0) (len:=xs.length) (es:=(jS l xs).map Ka) rfl hid or) ?_;have htk:(KF 0 ((jS l xs).map Ka)).take xs.length=(jS l xs).map Ka:=by rw[KC];exact Kg or
 rw[htk];refine au ?_;refine aC _ (Kb _) ⟨rfl,?_⟩;refine fun m b e=>?_;have:=hd _ _ e;simp only[Hp.del];rw[if_neg or];exact hsm.le hd (Kb _) m b e
end Go.Proofs.YtgbiopfghdilnaaGreatDoor
