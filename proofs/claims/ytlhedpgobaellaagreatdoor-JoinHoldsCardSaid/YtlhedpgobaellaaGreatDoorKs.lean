/-
Texts of this proof,one behind the other. No conditions.
-/
import Derived.Test.YtlhedpgobaellaaGreatDoorKk
open Go.Proofs.YtlhedpgobaellaaGreatDoor.Hp renaming le_refl→Ka,set→Kb,same→Kd
open List renaming drop_eq_getElem_cons→Kc,mem_map→Ke,map_append→Kf,map_cons→Kg,drop_of_length_le→Kh,take_of_length_le→Ki,mem_cons→Kj,mem_singleton→Km,map_nil→Kp,take_succ_eq_append_getElem→Kq,replicate_succ→Ku,replicate_zero→Kv,length_append→Kw,length_cons→Kz,cons_append→KA,length_nil→KB,nil_append→KC,nodup_append→KD,drop_length→KE,mem_append→KH,nodup_cons→KI
open Nat renaming zero_le→Kk,lt_or_ge→Ko,reduceAdd→Ks,reduceSub→Kt,le_refl→Kx,reduceLeDiff→KF,reduceEqDiff→KG,reduceLT→KM
open Prod renaming fst→Ky
open Int renaming reduceToNat→KJ
open Bool renaming not_false→KK,not_true→KL
open Option renaming map→KN
open Nat renaming reduceAdd→jA,reduceSub→jB,reduceLT→jC,reduceLeDiff→jD,reduceEqDiff→jE
open Int renaming reduceToNat→jF,toNat_natCast→jG,natCast_add→jH,natCast_one→jI,natCast_zero→jJ
open List renaming length_map→jK,length_cons→jL,length_nil→jM,cons_append→jP
set_option linter.all false
set_option maxHeartbeats 8000000
namespace Go.Proofs.YtlhedpgobaellaaGreatDoor
open Go.RowKit Go.Sort
attribute [local irreducible] IntKind.wrap
abbrev vls(o:Own)(l:List Vl):V:= .sl (.agg 3) o (l.map Vl.v)
abbrev TR:Type:=Own×List Vl
def TR.v(p:TR):V:=vls p.1 p.2
abbrev tps(o:Own)(l:List TR):V:= .sl .leaf o (l.map TR.v)
abbrev aQ(l:List TR):List (List Vl):=l.map Prod.snd
def TR.ok(p:TR):Prop:=(p.1= .nil∧p.2=[])∨p.1= .free
theorem vQ{o:Own}(l:List Vl)(h:o= .nil∨o= .free∨o= .full)(L:Nat→Prop):(vls o l).names L:=by
 rcases h with rfl|rfl|rfl<;>exact⟨(fun n e=>by cases e),cK (fun x=>Vl.aAN L x) l⟩
theorem TR.names{p:TR}(h:p.ok)(L:Nat→Prop):p.v.names L:=vQ p.2 (by rcases h with⟨h,_⟩|h<;>simp[h]) L
theorem TR.aAD(p:TR):p.v.fits .leaf=true:=rfl
def Rd(h:Hp)(v:V)(l:List Vl):Prop:=(∃o,v=vls o l)∨∃n tail,v= .rs n (.agg 3) 0 l.length∧h n=some (.arr (.agg 3) (l.map Vl.v++tail))
theorem AU(l:List Vl)(tail:List V)(i:Nat)(h:i<l.length):(l.map Vl.v++tail).getD i (.tup [])=l[i].v:=by
 rw[List.getD_eq_getElem?_getD,List.getElem?_append_left (by simpa using h)];simp[h]
theorem Bb{α:Type}(c:α→α→Int)(a b:List α)(i:Nat)(h1:i<a.length)(h2:i<b.length)(h0:c a[i] b[i]=0):dZ c (a.drop i) (b.drop i)=dZ c (a.drop (i+1)) (b.drop (i+1)):=by
 rw[Kc h1,Kc h2];simp only[dZ,orC,h0,if_true]
theorem wQ(o1:Own)(a b:List Vl)(ha:a.length≤1000000000)(v2:V)(h:Hp)(hv:Rd h v2 b):aL Tryz.prog 99 [vls o1 a,v2, .fn (.func 100) [] []] h (.int .i64 (cP a b)):=by
 refine aI (fun L=>trivial) fun h' nx hh=>aB L.aXn fun hd=>?_;refine ZK ?_;have hal:(a.map Vl.v).length=a.length:=jK ..;refine aue hal ?_
 refine aP (fun i:Nat=>aD 39 0 [(0,vls o1 a),(1,v2),(2, .fn (.func 100) [] []),(11,vls o1 a),(12, .int .i64 a.length),(13, .int .i64 i)])
  (fun i hp nx1=>i≤a.length∧i≤b.length∧cP a b=cP (a.drop i) (b.drop i)∧nx≤nx1∧aV hp nx1∧Kd nx h' hp)
  (fun i=>a.length-i) 0 ⟨Kk _,Kk _,rfl,Kx _,hd,Hp.same.aA0⟩ (by simp only[WkL,aD,jH,jI,jJ,go_sem,reduceIte,jA,jB,jC,jD,reduceCtorEq,jE,jF]) ?_
 rintro i hp nx1 ⟨hi,hib,hcm,hnx,hdm,hsm⟩;generalize hQ:bB _ _ _ _ _=Q0;refine Zk ?_;rcases Ko i a.length with hlt|hge
 ·have hc:decide ((i:Int)<(a.length:Int))=true:=dct;have hw:IntKind.i64.wrap ((i:Int)+1)=((i+1:Nat):Int):=wrp;have hg:(a.map Vl.v).getD i (.tup [])= .agg [.int .i64 a[i].k, .int .i64 a[i].n, .str a[i].s]:=aO Vl.v a i hlt;rcases Ko i b.length with hlb|hgb
  ·have hc2:decide ((b.length:Int)≤(i:Int))=false:=dcf;have hk:=fun h=>zo a[i] b[i] h;have hg2:(b.map Vl.v).getD i (.tup [])= .agg [.int .i64 b[i].k, .int .i64 b[i].n, .str b[i].s]:=aO Vl.v b i hlb;obtain⟨c,hcc⟩:∃c,pZ a[i] b[i]=c:=⟨_,rfl⟩;rw[hcc] at hk;have aAh:c≠0→cP a b=c:=fun h0=>by
    rw[hcm,Kc hlt,Kc hlb];simp only[cP,dZ,orC,hcc,if_neg h0]
   rcases hv with⟨o2,rfl⟩|⟨n,tail,rfl,hn⟩
   case' inl=>have E:=e9 hc hw hal hg hlt hc2 (@jK Vl V) jG (e2 hg2 hlb)
   case' inr=>
    have hn1:hp n=some (.arr (.agg 3) (b.map Vl.v++tail)):=by rw[hsm n (hd _ _ (hh _ _ hn rfl))];exact hh _ _ hn rfl
    have hn2:n<nx1:=hdm _ _ hn1;have hg3:(b.map Vl.v++tail).getD i (.tup [])= .agg [.int .i64 b[i].k, .int .i64 b[i].n, .str b[i].s]:=AU b tail i hlb;have hl3:(b.map Vl.v++tail).length=b.length+tail.length:=Zm;have hl4:i<b.length+tail.length:=or;have E:=e12 hc hw hal hg hlt hc2 (@jK Vl V) jG hn1 hn2 hg3 (e4 hlb hl3 hl4 Nat.zero_add)
   all_goals
    refine aue E ?_;refine cM rfl (hk _) rfl (aH _) ?_;refine Zn ?_;by_cases h0:c=0
    ·have hc3:(c != 0)=false:=bnf;refine aue hc3 ?_;rw[←hQ];refine aue hw ?_;exact aG (i+1) or ⟨hlt,hlb,by rw[hcm,cP,Bb pZ a b i hlt hlb (by rw[hcc];exact h0)],or,dmo hdm,kep hsm⟩ (by simp only[WkL,aD,jH,jI,jJ,hw,go_sem,reduceIte,jA,jB,jC,jD,reduceCtorEq,jE,jF])
    have hc3:(c != 0)=true:=bnt;refine aue hc3 ?_;rw[←hQ];refine au ?_;exact aC h' (lef hd (hsm.le hd (Ka _))) ⟨by rw[aAh h0]<;>rfl,rfl⟩
  have hc2:decide ((b.length:Int)≤(i:Int))=true:=dct;have hl2:∃m:Nat,m=b.length:=⟨_,rfl⟩;have aAh:cP a b=1:=by
   rw[hcm,Kc hlt,Kh hgb];rfl
  rcases hv with⟨o2,rfl⟩|⟨n,tail,rfl,hn⟩
  all_goals
   refine aue (e8 hc hw hal hg hlt hc2 (@jK Vl V) jG) ?_;rw[←hQ];refine au ?_;exact aC h' (lef hd (hsm.le hd (Ka _))) ⟨by rw[aAh]<;>rfl,rfl⟩
 have hc:decide ((i:Int)<(a.length:Int))=false:=dcf;have hia:i=a.length:=or;have aAh:cP a b=if a.length<b.length then-1 else 0:=by
  rw[hcm,hia,KE];split
  ·rename_i k;rw[Kc k];rfl
  rw[Kh or];rfl
 by_cases hl:a.length<b.length
 ·have hc2:decide ((a.length:Int)<(b.length:Int))=true:=dct;rw[if_pos hl] at aAh;rcases hv with⟨o2,rfl⟩|⟨n,tail,rfl,hn⟩
  all_goals
   refine aue hc ?_;rw[←hQ];refine aue (e3 hc2 hal (@jK Vl V)) ?_;exact aC h' (lef hd (hsm.le hd (Ka _))) ⟨by rw[aAh]<;>rfl,rfl⟩
 have hc2:decide ((a.length:Int)<(b.length:Int))=false:=dcf;rw[if_neg hl] at aAh;rcases hv with⟨o2,rfl⟩|⟨n,tail,rfl,hn⟩
 all_goals
  refine aue hc ?_;rw[←hQ];refine aue (e3 hc2 hal (@jK Vl V)) ?_;exact aC h' (lef hd (hsm.le hd (Ka _))) ⟨by rw[aAh]<;>rfl,rfl⟩
theorem qF(o1:Own)(a b:List Vl)(ha:a.length≤1000000000)(v2:V)(h:Hp)(hv:Rd h v2 b):aL Tryz.prog 53 [vls o1 a,v2] h (.int .i64 (cP a b)):=by
 refine aI (fun L=>trivial) fun h' nx hh=>aB L.aYB fun hd=>?_;refine ZK ?_;refine au ?_;refine aJ (wQ o1 a b ha v2 h hv) rfl hh ?_;refine Zn ?_;refine au ?_;exact aC h' (leo hd) ⟨rfl,rfl⟩
theorem yQ(a b:Vl):veq (.plain (.agg 3) [.int, .int, .str]) a.v b.v=some (decide (a=b)):=by
 have e:(decide (a=b))=(decide (a.k=b.k)&&(decide (a.n=b.n)&&decide (a.s=b.s))):=by
  rw[Bool.eq_iff_iff];cases a;cases b;simp
 rw[e];have e1:(a.k==b.k)=decide (a.k=b.k):=rfl;have e2:(a.n==b.n)=decide (a.n=b.n):=rfl;simp[Vl.v,tj,V.fits,V.aAE,gF,gG,dS,e1,e2]
theorem ff(o1 o2:Own)(a b:List Vl)(ha:a.length≤1000000000)(h:Hp):aL Tryz.prog 27 [vls o1 a,vls o2 b] h (.bool (decide (a=b))):=by
 refine aI (fun L=>trivial) fun h' nx hh=>aB L.aYf fun hd=>?_;refine ZK ?_;by_cases hl:a.length=b.length
 ·have cl:((a.length:Int) != (b.length:Int))=false:=bnf;refine aue (e2 cl (@jK Vl V)) ?_;refine aP (fun i:Nat=>aD 26 0 [(0,vls o1 a),(1,vls o2 b),(12, .int .i64 a.length),(13, .int .i64 i)]) (fun i hp nx1=>i≤a.length∧nx≤nx1∧aV hp nx1∧Kd nx h' hp∧a.take i=b.take i) (fun i=>a.length-i) 0 ⟨Kk _,Kx _,hd,Hp.same.aA0,rfl⟩ (by simp only[WkL,aD,jH,jI,jJ,go_sem,reduceIte,jA,jB,jC,jD,reduceCtorEq,jE,jF]) ?_;rintro i hp nx1 ⟨hi,hnx,hdm,hsm,htk⟩;generalize hQ:bB _ _ _ _ _=Q0;refine Zk ?_;rcases Ko i a.length with hlt|hge
  ·have hc:decide ((i:Int)<(a.length:Int))=true:=dct;have hw:IntKind.i64.wrap ((i:Int)+1)=((i+1:Nat):Int):=wrp;have hlb:i<b.length:=or;have hg:=aO Vl.v a i hlt;have hg2:=aO Vl.v b i hlb;have hv:=yQ a[i] b[i];have E:=e9 hc hw hg hg2 hv hlt hlb (@jK Vl V) (e2 jG Vl.aAD);cases he:decide (a[i]=b[i]) with
   |true=>
    have he':a[i]=b[i]:=of_decide_eq_true he;refine aue (e4 E he KL KK) ?_;rw[←hQ];exact aG (i+1) or ⟨hlt,or,dmo hdm,kep hsm,by rw[Kq hlt,Kq hlb,htk,he']⟩ (by simp only[WkL,aD,jH,jI,jJ,hw,go_sem,reduceIte,jA,jB,jC,jD,reduceCtorEq,jE,jF])
   |false=>
    have he':a[i]≠b[i]:=of_decide_eq_false he;refine aue (e4 E he KL KK) ?_;rw[←hQ];refine au ?_;refine aC h' (lef hd (hsm.le hd (Ka _))) ⟨?_,rfl⟩;have:a≠b:=fun e=>he' (by subst e;rfl);simp only[go_sem,reduceIte,jA,jB,jC,jD,reduceCtorEq,jE,jF];rw[decide_eq_false this]
  have hc:decide ((i:Int)<(a.length:Int))=false:=dcf;refine aue hc ?_;rw[←hQ];refine au ?_;refine aC h' (lef hd (hsm.le hd (Ka _))) ⟨?_,rfl⟩;have:a=b:=by rw[Ki or,Ki or] at htk;exact htk
  simp only[go_sem,reduceIte,jA,jB,jC,jD,reduceCtorEq,jE,jF];rw[decide_eq_true this]
 have cl:((a.length:Int) != (b.length:Int))=true:=bnt;refine aue (e2 cl (@jK Vl V)) ?_;refine aC h' (leo hd) ⟨?_,rfl⟩;have:a≠b:=fun e=>hl (by rw[e]);simp only[go_sem,reduceIte,jA,jB,jC,jD,reduceCtorEq,jE,jF];rw[decide_eq_false this]
def jb(n:Int):List Vl→Option Int
 | []=>some n
 |x::l=>if 2000<IntKind.i64.wrap (n+(x.s.size:Int)) then none else jb (IntKind.i64.wrap (n+(x.s.size:Int))) l
def rH(n:Int):List (List Vl)→Bool
 | []=>false
 |t::l=>if 50<t.length then true else match jb n t with
  |none=>true
  |some m=>rH m l
theorem ja:∀(l:List (List Vl)) (n:Int),rH n l=false→∀t∈l,t.length≤50
 | [],_,_=>Zm
 |t::l,n,h=>by
  unfold rH at h;split at h
  ·cases h
  rename_i h1;split at h
  ·cases h
  rename_i m _;intro q hq;rcases Kj.1 hq with rfl|hq
  ·omega
  exact ja l m h q hq
theorem AD(o:Own)(l:List TR)(hl:l.length≤1000000000)(h:Hp):aL Tryz.prog 23 [tps o l] h (.bool (rH 0 (aQ l))):=by
 refine aI (fun L=>trivial) fun h' nx hh=>aB L.aYv fun hd=>?_;refine ZK ?_;refine aue (@jK TR V) ?_;refine aP (fun q:Nat×Int=>aD 32 0 [(3, .int .i64 q.2),(8,tps o l),(9, .int .i64 l.length),(10, .int .i64 q.1)]) (fun q hp nx1=>q.1≤l.length∧nx≤nx1∧aV hp nx1∧Kd nx h' hp∧rH 0 (aQ l)=rH q.2 (aQ (l.drop q.1))) (fun q=>l.length-q.1) (0,0) ⟨Kk _,Kx _,hd,Hp.same.aA0,rfl⟩ (by simp only[WkL,aD,jH,jI,jJ,go_sem,reduceIte,jA,jB,jC,jD,reduceCtorEq,jE,jF]) ?_;rintro⟨i,n⟩ hp nx1 ⟨hi,hnx,hdm,hsm,hto⟩;generalize hQ:bB _ _ _ _ _=Q0;dsimp only at hi hto;refine Zk ?_;have hle:=hsm.le hd (Ka _);rcases Ko i l.length with hlt|hge
 ·have hc:decide ((i:Int)<(l.length:Int))=true:=dct;have hw:IntKind.i64.wrap ((i:Int)+1)=((i+1:Nat):Int):=wrp;obtain⟨p,hpq⟩:∃p,l[i]=p:=⟨_,rfl⟩;have hg:(l.map TR.v).getD i (.tup [])=vls p.1 p.2:=by rw[aO TR.v l i hlt,hpq];rfl
  have hdr:aQ (l.drop i)=p.2::aQ (l.drop (i+1)):=by rw[Kc hlt,hpq];rfl
  rw[hdr,rH] at hto;by_cases aGm:50<p.2.length
  ·have cl:decide ((50:Int)<(p.2.length:Int))=true:=dct;rw[if_pos aGm] at hto;refine aue (e8 hc hw hg hlt (@jK TR V) (@jK Vl V) jG cl) ?_;rw[←hQ];refine au ?_;refine aC h' (lef hd hle) ⟨?_,rfl⟩;simp only[hto,go_sem,reduceIte,jA,jB,jC,jD,reduceCtorEq,jE,jF]
  have cl:decide ((50:Int)<(p.2.length:Int))=false:=dcf;rw[if_neg aGm] at hto;refine aue (e8 hc hw hg hlt (@jK TR V) (@jK Vl V) jG cl) ?_;refine aP (fun q:Nat×Int=>aD 32 0 [(3, .int .i64 q.2),(8,tps o l),(9, .int .i64 l.length),(10, .int .i64 i),(17,vls p.1 p.2),(18, .int .i64 p.2.length),(19, .int .i64 q.1)]) (fun q hp nx2=>q.1≤p.2.length∧nx≤nx2∧aV hp nx2∧Kd nx h' hp∧jb n p.2=jb q.2 (p.2.drop q.1)) (fun q=>p.2.length-q.1) (0,n) ⟨Kk _,hnx,hdm,hsm,rfl⟩ (by simp only[WkL,aD,jH,jI,jJ,go_sem,reduceIte,jA,jB,jC,jD,reduceCtorEq,jE,jF]) ?_;rintro⟨j,m⟩ hp2 nx2 ⟨hj,aGN,aGP,aOg,aEO⟩;generalize hQ2:bB _ _ _ _ _=Q2;dsimp only at hj aEO;refine Zk ?_;have aAV:=aOg.le hd (Ka _);rcases Ko j p.2.length with hlj|hgj
  ·have hcj:decide ((j:Int)<(p.2.length:Int))=true:=dct;have hwj:IntKind.i64.wrap ((j:Int)+1)=((j+1:Nat):Int):=wrp;have hgj:(p.2.map Vl.v).getD j (.tup [])= .agg [.int .i64 p.2[j].k, .int .i64 p.2[j].n, .str p.2[j].s]:=aO Vl.v p.2 j hlj;rw[Kc hlj,jb] at aEO;cases cb:decide (2000<IntKind.i64.wrap (m+(p.2[j].s.size:Int))) with
   |true=>
    rw[if_pos (of_decide_eq_true cb)] at aEO;rw[aEO] at hto;refine aue (e7 hcj hwj hgj hlj (@jK Vl V) jG cb) ?_;rw[←hQ2,←hQ];refine au ?_;refine aC h' (lef hd aAV) ⟨?_,rfl⟩;simp only[hto,go_sem,reduceIte,jA,jB,jC,jD,reduceCtorEq,jE,jF]
   |false=>
    rw[if_neg (of_decide_eq_false cb)] at aEO;refine aue (e7 hcj hwj hgj hlj (@jK Vl V) jG cb) ?_;rw[←hQ2];exact aG (j+1,_) Zw ⟨hlj,or,dmo aGP,kep aOg,aEO⟩ (by simp only[WkL,aD,jH,jI,jJ,hwj,go_sem,reduceIte,jA,jB,jC,jD,reduceCtorEq,jE,jF])
  have hcj:decide ((j:Int)<(p.2.length:Int))=false:=dcf;rw[Kh hgj,jb] at aEO;rw[aEO] at hto;dsimp only at hto;refine aue hcj ?_;rw[←hQ2];clear hQ2 Q2;refine aue hw ?_;rw[←hQ];exact aG (i+1,m) Zw ⟨hlt,or,aGP,aOg,hto⟩ (by simp only[WkL,aD,jH,jI,jJ,hw,go_sem,reduceIte,jA,jB,jC,jD,reduceCtorEq,jE,jF])
 have hc:decide ((i:Int)<(l.length:Int))=false:=dcf;rw[Kh hge] at hto;refine aue hc ?_;rw[←hQ];refine au ?_;refine aC h' (lef hd hle) ⟨?_,rfl⟩;rw[hto];rfl
def tf:Vl:=⟨0,0,⟨#[]⟩⟩
def cQ(t:Tr)(l:List Tr):Vl×Int:=
 if t.x.size=0 then (if bO t.w=true then (t.w,0) else (tf,2))
 else match lkB t.x l with
  |some w=>if bO w=true then (w,0) else (tf,13)
  |none=>(tf,13)
theorem dy(t:Tr)(l:List Tr)(n:Nat)(es:List ME)(c:Nat)(h:Hp)(hm:h n=some (.mp es c))(he:ei es l):aL Tryz.prog 48 [t.v, .map n] h (.tup [(cQ t l).1.v,fM (cQ t l).2]):=by
 refine aI (fun L=>⟨Vl.aAN L _,eV L _,trivial⟩) fun h' nx hh=>aB L.aYD fun hd=>?_;refine ZK ?_;have hn1:=hh _ _ hm rfl;have hn2:n<nx:=hd _ _ hn1;have h0:=vS t.x;unfold cQ;by_cases h1:t.x.size=0
 ·have g1:decide (t.x.size=0)=true:=dct;rw[if_pos h1];have C1:∀h,aL Tryz.prog 94 [.agg [.int .i64 t.w.k, .int .i64 t.w.n, .str t.w.s]] h (.bool (bO t.w)):=fun h=>gS t.w h;cases k:bO t.w with
  |true=>
   rw[k] at C1;refine aue (e3 Tr.v.eq_1 h0 g1) ?_;refine bH (by simp only[go_sem,reduceIte,jA,jB,jC,jD,reduceCtorEq,jE,jF]) h' (leo hd) ⟨?_,rfl⟩;refine Zn ?_;rfl
  |false=>
   rw[k] at C1;refine aue (e3 Tr.v.eq_1 h0 g1) ?_;refine bH (by simp only[go_sem,reduceIte,jA,jB,jC,jD,reduceCtorEq,jE,jF]) h' (leo hd) ⟨?_,rfl⟩;refine Zn ?_;rfl
 have g1:decide (t.x.size=0)=false:=dcf;rw[if_neg h1];have hx:=he t.x;cases k:lkB t.x l with
 |none=>
  rw[k] at hx;have hg0:iM true (.agg [.int .i64 0, .int .i64 0, .str ⟨#[]⟩]) es none= .tup [.agg [.int .i64 0, .int .i64 0, .str ⟨#[]⟩], .bool false]:=rfl;refine aue (e7 Tr.v.eq_1 h0 g1 hn1 hn2 hx hg0) ?_;refine bH (by simp only[go_sem,reduceIte,jA,jB,jC,jD,reduceCtorEq,jE,jF]) h' (leo hd) ⟨?_,rfl⟩;refine Zn ?_;rfl
 |some w=>
  rw[k] at hx;obtain⟨j,hj1,hj2,hj3⟩:=hx;have hg0:iM true (.agg [.int .i64 0, .int .i64 0, .str ⟨#[]⟩]) es (some j)= .tup [w.v, .bool true]:=by rw[←hj2];rfl
  have C1:=fun h=>gS w h;have hwf:=Vl.aAD w;simp only;cases k2:bO w with
  |true=>
   rw[k2] at C1;refine aue (e8 Tr.v.eq_1 h0 g1 hn1 hn2 hj1 hg0 hwf) ?_;refine bH (by simp only[hwf,bP hwf,go_sem,reduceIte,jA,jB,jC,jD,reduceCtorEq,jE,jF]) h' (leo hd) ⟨?_,rfl⟩;simp only[hwf,bP hwf,go_sem,reduceIte,jA,jB,jC,jD,reduceCtorEq,jE,jF];rfl
  |false=>
   rw[k2] at C1;refine aue (e8 Tr.v.eq_1 h0 g1 hn1 hn2 hj1 hg0 hwf) ?_;refine bH (by simp only[go_sem,reduceIte,jA,jB,jC,jD,reduceCtorEq,jE,jF]) h' (leo hd) ⟨?_,rfl⟩;refine Zn ?_;rfl
def lQ(l:List Tr):List Vl→List Tr→List Vl×Int
 |acc,[]=>(acc,0)
 |acc,t::r=>if (cQ t l).2≠0 then ([],(cQ t l).2) else lQ l (acc++[(cQ t l).1]) r
def cY(a:Am)(l:List Tr):List Vl×Int:=if 6<a.l.length then ([],6) else lQ l [] a.l
def okO(e:Int)(o:Own):Own:=if e=0 then o else .nil
theorem lP(l:List Tr)(acc:List Vl)(t:Tr)(r:List Tr):lQ l acc (t::r)=if (cQ t l).2≠0 then ([],(cQ t l).2) else lQ l (acc++[(cQ t l).1]) r:=rfl
theorem sm(e:Int)(vs:List Vl)(L:Nat→Prop):(V.tup [.sl (.agg 3) (okO e .free) (vs.map Vl.v),fM e]).names L:=by
 refine⟨⟨?_,cK (fun x=>Vl.aAN L x) _⟩,eV L _,trivial⟩;intro n k;unfold okO at k;split at k<;>cases k
theorem sL(a:Am)(l:List Tr)(n:Nat)(es:List ME)(c:Nat)(h:Hp)(hm:h n=some (.mp es c))(he:ei es l):aL Tryz.prog 12 [a.v, .map n] h (.tup [.sl (.agg 3) (okO (cY a l).2 .free) ((cY a l).1.map Vl.v),fM (cY a l).2]):=by
 refine lL (fun L=>sm _ _ L) fun h' nx hh=>aB L.g6z fun hd=>?_;obtain⟨r,o,ts⟩:=a;refine ZK ?_;have hn1:=hh _ _ hm rfl;have hn2:n<nx:=hd _ _ hn1;unfold cY;dsimp only;by_cases h6:6<ts.length
 ·have g1:decide ((6:Int)<(ts.length:Int))=true:=dct;rw[if_pos h6];refine aue (e4 Am.v.eq_1 trs.eq_1 g1 (@jK Tr V)) ?_;refine aN _ (Ka _) ⟨?_,leo hd⟩;refine Zn ?_;rfl
 have g1:decide ((6:Int)<(ts.length:Int))=false:=dcf;rw[if_neg h6];refine aue (e4 Am.v.eq_1 trs.eq_1 g1 (@jK Tr V)) ?_;generalize hRC:mT (lwp Tryz.prog ((aS.ops L.aEX).seq aS.ret)) _=RC
 refine aP (fun q:Nat×Nat×List Vl=>aD 42 0 [(1, .map n),(4, .sl (.agg 3) .nil []),(5, .nilIface),(6, .rs q.2.1 (.agg 3) 0 q.2.2.length),(21, .sl (.agg 4) o (ts.map Tr.v)),(22, .int .i64 ts.length),(23, .int .i64 q.1)])
  (fun q hp nx1=>q.1≤ts.length∧nx+1≤nx1∧aV hp nx1∧Kd nx h' hp∧(nx<q.2.1∧hp q.2.1=some (.arr (.agg 3) (q.2.2.map Vl.v)))∧lQ l [] ts=lQ l q.2.2 (ts.drop q.1)∧q.2.2.length≤q.1)
  (fun q=>ts.length-q.1) (0,nx+1,[]) ⟨Kk _,Zw,by exact dmo hd,by exact kep Hp.same.aA0,⟨Zw,by simp only[Kp,go_sem,reduceIte,jA,jB,jC,jD,reduceCtorEq,jE,jF]⟩,rfl,Kk _⟩ (by simp only[WkL,aD,jH,jI,jJ,jM,go_sem,reduceIte,jA,jB,jC,jD,reduceCtorEq,jE,jF]) ?_
 rintro⟨i,id,acc⟩ hp nx1 ⟨hi,hnx,hdm,hsm,⟨aWI,hid⟩,hmk,hlen⟩;generalize hQ:bB _ _ _ _ _=Q0;dsimp only at hi hid hmk hlen aWI;refine Zk ?_;have hle:=hsm.le hd (Ka _);have hme:hp n=some (.mp es c):=by rw[hsm n hn2];exact hn1
 have aO1:id<nx1:=hdm _ _ hid;rcases Ko i ts.length with hlt|hge
 ·have hc:decide ((i:Int)<(ts.length:Int))=true:=dct;have hg:=aO Tr.v ts i hlt;have hw:IntKind.i64.wrap ((i:Int)+1)=((i+1:Nat):Int):=wrp;have hdr:ts.drop i=ts[i]::ts.drop (i+1):=Kc hlt;have hn3:n<nx1:=or;rw[hdr] at hmk;generalize ts[i]=T at hg hmk;have hTf:=Tr.aAD T;have hVf:=Vl.aAD (cQ T l).1;refine aue (e9 hc hg hlt hme hn3 (@jK Tr V) jG hw hTf) ?_;refine aJ (dy T l n es c _ (by simp only[hme,hn3,go_sem,reduceIte,jA,jB,jC,jD,reduceCtorEq,jE,jF]) he) rfl (aH _) ?_;refine Zn ?_;rw[lP] at hmk;by_cases hz:(cQ T l).2=0
  ·rw[if_neg (by simp[hz])] at hmk;rw[hz];have hml:(acc.map Vl.v).length=acc.length:=jK ..;have htk:(acc.map Vl.v).take acc.length=acc.map Vl.v:=Ki Zm;have aPC:acc.length≤1000000:=or;refine aue (e9 Fj hVf hw hid aO1 hml htk aPC hc) ?_;rw[←hQ];exact aG (i+1,nx1+5,acc++[(cQ T l).1]) Zw ⟨hlt,or,dmo hdm,kep hsm,⟨Zw,by simp only[Kf,Kg,Kp,go_sem,reduceIte,jA,jB,jC,jD,reduceCtorEq,jE,jF]⟩,hmk,by dsimp only;rw[Kw];simp only[jL,jM];omega⟩ (by simp only[WkL,aD,jH,jI,jJ,Kw,jL,jM,go_sem,reduceIte,jA,jB,jC,jD,reduceCtorEq,jE,jF])
  rw[if_pos hz] at hmk;have hev:fM (cQ T l).2= .iface 93 (.int .i64 (cQ T l).2):=by unfold fM;rw[if_neg hz]
  refine aue (e2 hev hVf) ?_;rw[←hQ,←hRC];refine au ?_;refine aN _ (Ka _) ⟨?_,lef hd hle⟩;refine Zn ?_;rw[hmk];unfold okO;rw[if_neg hz,hev];rfl
 have hc:decide ((i:Int)<(ts.length:Int))=false:=dcf;refine aue hc ?_;rw[←hQ];refine au ?_;have hie:i=ts.length:=or;rw[hie,KE] at hmk;simp only[lQ] at hmk;rw[←hRC];refine dO (oY (t:=6) (n:=id) (k:= .agg 3) (off:=0) (len:=acc.length) (es:=acc.map Vl.v) rfl hid Zm) ?_;have htk:(List.drop 0 (acc.map Vl.v)).take acc.length=acc.map Vl.v:=by rw[List.drop_zero];exact Ki Zm
 rw[htk];refine au ?_;refine aN _ (Ka _) ⟨?_,?_⟩
 ·refine Zn ?_;rw[hmk];rfl
 refine fun m b e=>?_;have:=hd _ _ e;simp only[Hp.del];rw[if_neg or];exact hle m b e
structure EE where
 x:ByteArray
 w:Vl
 b:Nat
def EE.me(e:EE):ME:=⟨.str e.x,e.w.v,e.b⟩
def EE.p(e:EE):ByteArray×Vl:=(e.x,e.w)
def xe(es:List ME)(c:Nat)(L:List EE):Prop:=es=L.map EE.me∧(L.map EE.b).Nodup∧∀e∈L,e.b<c
def lkP(x:ByteArray):List (ByteArray×Vl)→Option Vl
 | []=>none
 |a::r=>if a.1=x then some a.2 else lkP x r
theorem yv(x:ByteArray)(a:ByteArray×Vl):∀l,lkP x (l++[a])=(match lkP x l with
 |some w=>some w
 |none=>if a.1=x then some a.2 else none)
 | []=>by simp[lkP]
 |b::l=>by
  simp only[jP,lkP];split
  ·rfl
  exact yv x a l
theorem Cm{x:ByteArray}:∀{l:List (ByteArray×Vl)},(∀e∈l,e.1≠x)→lkP x l=none
 | [],_=>rfl
 |b::l,h=>by
  unfold lkP;rw[if_neg (h b List.mem_cons_self)];exact Cm fun e he=>h e (List.mem_cons_of_mem _ he)
theorem qf{x:ByteArray}:∀{l:List (ByteArray×Vl)},lkP x l=none→∀e∈l,e.1≠x
 |b::l,h,e,he=>by
  unfold lkP at h;split at h
  ·cases h
  rename_i hb;rcases Kj.1 he with rfl|he
  ·exact hb
  exact qf h e he
def sS(es:List ME)(c:Nat)(l:List Tr):Prop:=∃L:List EE,xe es c L∧(L.map EE.x).Nodup∧∀x,lkP x (L.map EE.p)=lkB x l
theorem Dh(x:ByteArray):∀L:List EE,(match lkP x (L.map EE.p) with
 |none=>bN (.plain .leaf [.str]) (.str x) (L.map EE.me)=some none
 |some w=>∃j,bN (.plain .leaf [.str]) (.str x) (L.map EE.me)=some (some j)∧((L.map EE.me).getD j default).v=w.v∧j<(L.map EE.me).length)
 | []=>rfl
 |e::L=>by
  have ih:=Dh x L;simp only[Kg,lkP,bN,EE.me,EE.p];rw[j6];by_cases h:e.x=x
  ·rw[if_pos h,decide_eq_true h.symm];exact⟨0,rfl,rfl,Zm⟩
  rw[if_neg h,decide_eq_false (fun q=>h q.symm)];cases hk:lkP x (L.map EE.p) with
  |none=>
   rw[hk] at ih;show KN _ (bN _ _ (L.map EE.me))=_;rw[ih];rfl
  |some w=>
   rw[hk] at ih;obtain⟨j,h1,h2,h3⟩:=ih;refine⟨j+1,?_,h2,by simpa using h3⟩;show KN _ (bN _ _ (L.map EE.me))=_;rw[h1];rfl
theorem sS.at{es:List ME}{c:Nat}{l:List Tr}(h:sS es c l):ei es l:=fun x=>by
 obtain⟨L,⟨rfl,_,_⟩,_,hl⟩:=h;rw[←hl x];exact Dh x L
theorem CO:sS [] 0 []:=⟨[],⟨rfl,Zm,Zm⟩,Zm,fun x=>rfl⟩
theorem xe.add{es:List ME}{c:Nat}{L:List EE}(h:xe es c L)(x:ByteArray)(w:Vl):xe (es++[⟨.str x,w.v,c⟩]) (c+1) (L++[⟨x,w,c⟩]):=by
 obtain⟨rfl,h2,h3⟩:=h;refine⟨by rw[Kf];rfl,?_,fun e he=>?_⟩
 ·rw[Kf,KD];refine⟨h2,Zm,fun a ha b hb=>?_⟩;obtain⟨e,he,rfl⟩:=Ke.1 ha;simp only[Kg,Kp,Km] at hb;subst hb;have:=h3 e he;omega
 rcases KH.1 he with he|he
 ·have:=h3 e he;omega
 rw[Km] at he;subst he;exact Nat.lt_succ_self c
theorem sS.add{es:List ME}{c:Nat}{l:List Tr}(h:sS es c l)(t:Tr)(hn:lkB t.x l=none):sS (es++[⟨.str t.x,t.w.v,c⟩]) (c+1) (l++[t]):=by
 obtain⟨L,hL,hx,hl⟩:=h;have hno:∀e∈L,e.x≠t.x:=fun e he=>qf ((hl t.x).trans hn) e.p (Ke.2 ⟨e,he,rfl⟩);refine⟨L++[⟨t.x,t.w,c⟩],hL.add t.x t.w,?_,fun x=>?_⟩
 ·rw[Kf,KD];refine⟨hx,Zm,fun a ha b hb=>?_⟩;obtain⟨e,he,rfl⟩:=Ke.1 ha;simp only[Kg,Kp,Km] at hb;subst hb;exact hno e he
 rw[Kf,Kg,Kp,yv,yG,←hl x];rfl
theorem Cl{A B:List (ByteArray×Vl)}(h:A.Perm B)(hn:(A.map Ky).Nodup)(x:ByteArray):lkP x A=lkP x B:=by
 have key:∀{C:List (ByteArray×Vl)},(C.map Ky).Nodup→∀w,lkP x C=some w↔(x,w)∈C:=by
  intro C hC w;induction C with
  |nil=>simp[lkP]
  |cons a C ih=>
   rw[Kg,KI] at hC;unfold lkP;split
   ·rename_i e;simp only[Option.some.injEq,Kj];constructor
    ·rintro rfl;exact .inl (by rw[←e])
    rintro(h|h)
    ·rw[←h]
    exact absurd (Ke.2 ⟨_,h,rfl⟩) (by rw[e] at hC;exact hC.1)
   rename_i e;rw[ih hC.2,Kj];exact⟨.inr,fun h=>h.elim (fun h=>absurd (by rw[←h]) e) id⟩
 have hn2:(B.map Ky).Nodup:=(h.map Ky).nodup_iff.1 hn;cases hA:lkP x A with
 |some w=>exact((key hn2 w).2 (h.mem_iff.1 ((key hn w).1 hA))).symm
 |none=>
  cases hB:lkP x B with
  |none=>rfl
  |some w=>rw[(key hn w).2 (h.mem_iff.2 ((key hn2 w).1 hB))] at hA;cases hA
theorem CQ:∀{l:List EE},(l.map EE.x).Nodup→∀{a b:EE},a∈l→b∈l→a.x=b.x→a=b
 |c::l,hn,a,b,ha,hb,h=>by
  rw[Kg,KI] at hn;rcases Kj.1 ha with rfl|h1
  ·rcases Kj.1 hb with rfl|h2
   ·rfl
   exact absurd (Ke.2 ⟨b,h2,h.symm⟩) hn.1
  rcases Kj.1 hb with rfl|h2
  ·exact absurd (Ke.2 ⟨a,h1,h⟩) hn.1
  exact CQ hn.2 h1 h2 h
theorem p9(m n:Nat)(es0:List ME)(c0:Nat)(L0:List EE)(h0:xe es0 c0 L0)(hx0:(L0.map EE.x).Nodup)(h:Hp)(nx:Nat)(hmn:m≠n)(hm:h m=some (.mp es0 c0))(hn:h n=some (.mp [] 0)):
 aR Tryz.prog 193 [.map n, .map m] h nx fun v h' nx'=>∃es c L,h' n=some (.mp es c)∧xe es c L∧(L.map EE.p).Perm (L0.map EE.p)∧∀k,k<nx→k≠n→h' k=h k:=by
 refine aB L.aWg fun hd=>?_;refine ZK ?_;have hmx:=hd _ _ hm;have hnx:=hd _ _ hn;obtain⟨rfl,hb0,hc0⟩:=h0;refine au ?_;refine Cd rfl hm ?_;refine au ?_
 refine aP (fun q:List EE×List EE×List ME×Nat=>aD 16 0 [(0, .map n),(7, .ptr nx .leaf 0 0)])
  (fun q hp nx1=>nx<nx1∧hp m=some (.mp (L0.map EE.me) c0)∧hp nx=some (.mit m c0 (q.1.map EE.b) c0)∧hp n=some (.mp q.2.2.1 q.2.2.2)∧xe q.2.2.1 q.2.2.2 q.2.1∧q.2.1.map EE.p=q.1.map EE.p∧(q.1.map EE.b).Nodup∧(∀y∈q.1,y∈L0)∧∀k,k<nx→k≠n→hp k=h k)
  (fun q=>L0.length-q.1.length) ([],[],[],0) ⟨Zw,by simp only[hm,(fls:(m=nx)=False),go_sem,reduceIte,jA,jB,jC,jD,reduceCtorEq,jE,jF],by simp only[go_sem,reduceIte,jA,jB,jC,jD,reduceCtorEq,jE,jF],by simp only[hn,(fls:(n=nx)=False),go_sem,reduceIte,jA,jB,jC,jD,reduceCtorEq,jE,jF],⟨rfl,Zm,Zm⟩,rfl,Zm,Zm,fun k hk _=>by simp only[Kb];rw[if_neg or]⟩ (by simp only[WkL,aD,jH,jI,jJ,go_sem,reduceIte,jA,jB,jC,jD,reduceCtorEq,jE,jF]) ?_
 rintro⟨js,L,es,c⟩ hp nx1 ⟨q1,q2,q3,q4,q5,q6,q7,q8,q9⟩;generalize hQ:bB _ _ _ _ _=Q0;dsimp only at q3 q4 q5 q6 q7 q8;refine Zk ?_;refine au ?_;refine Ce rfl q3 q2 (fun e he=>by obtain⟨y,hy,rfl⟩:=Ke.1 he;exact hc0 y hy) (Kx _) ?_ ?_
 ·intro e he hns;obtain⟨y,hy,rfl⟩:=Ke.1 he;have hns:y.b∉js.map EE.b:=hns;have hno:∀z∈js,z.x≠y.x:=fun z hz e=>hns (by rw[←CQ hx0 (q8 z hz) hy e];exact Ke.2 ⟨z,hz,rfl⟩);have hf:bN (.plain .leaf [.str]) (.str y.x) es=some none:=by
   have:=Dh y.x L;rw[←q5.1,q6,Cm (fun e he=>by obtain⟨z,hz,rfl⟩:=Ke.1 he;exact hno z hz)] at this;exact this
  have hwf:=Vl.aAD y.w;simp only[EE.me];refine au ?_;refine Cf (b:=y.b) (e:=y.me) (m:=m) (since:=c0) (c:=c0) (es:=L0.map EE.me) (seen:=js.map EE.b++[y.b]) rfl (by simp only[go_sem,reduceIte,jA,jB,jC,jD,reduceCtorEq,jE,jF]) (by simp only[q2,(fls:(m=nx)=False),go_sem,reduceIte,jA,jB,jC,jD,reduceCtorEq,jE,jF]) Zm (Eg EE.me (by exact hb0) hy) ?_;simp only[EE.me];refine aue hwf ?_;refine nL (es:=es) (c:=c) (n:=n) rfl rfl (by simp only[q4,(fls:(n=nx)=False),(fls:(n=nx1+1)=False),(fls:(n=nx1+2)=False),(fls:(n=nx1)=False),go_sem,reduceIte,jA,jB,jC,jD,reduceCtorEq,jE,jF]) hf ?_;refine Zn ?_;refine au ?_;rw[←hQ];have aUt:=Ar EE.b q7 q8 hy hns;refine aG (js++[y],L++[⟨y.x,y.w,c⟩],es++[⟨.str y.x,y.w.v,c⟩],c+1) (by dsimp only;rw[Kw,jL,jM];omega) ⟨or,?_,?_,by simp only[go_sem,reduceIte,jA,jB,jC,jD,reduceCtorEq,jE,jF],q5.add y.x y.w,by rw[Kf,Kf,q6];rfl,by exact BY EE.b q7 hns,fun z hz=>?_,fun k hk hkn=>?_⟩ (by simp only[WkL,aD,jH,jI,jJ,go_sem,reduceIte,jA,jB,jC,jD,reduceCtorEq,jE,jF])
  ·simp only[q2,(fls:(m=n)=False),(fls:(m=nx)=False),(fls:(m=nx1+2)=False),go_sem,reduceIte,jA,jB,jC,jD,reduceCtorEq,jE,jF]
  ·simp only[(fls:(nx=n)=False),(fls:(nx=nx1+2)=False),Kf,Kg,Kp,go_sem,reduceIte,jA,jB,jC,jD,reduceCtorEq,jE,jF]
  ·rcases KH.1 hz with hz|hz
   ·exact q8 z hz
   rw[Km] at hz;subst hz;exact hy
  simp only[Kb];rw[if_neg hkn,if_neg or,if_neg or,if_neg or];exact q9 k hk hkn
 intro aAZ;refine au ?_;rw[←hQ];refine au ?_;refine⟨hp,Ka _,es,c,L,q4,q5,?_,q9⟩;rw[q6];exact(DQ EE.b hb0 q7 q8 fun y hy=>aAZ y.me (Ke.2 ⟨y,hy,rfl⟩)).map _
theorem mP(m:Nat)(es0:List ME)(c0:Nat)(l:List Tr)(h0:sS es0 c0 l)(h:Hp)(nx:Nat)(hm:h m=some (.mp es0 c0)):
 aR Tryz.prog 126 [.map m] h nx fun v h' nx'=>∃n es c,v= .map n∧nx≤n∧n<nx'∧h' n=some (.mp es c)∧sS es c l∧∀k,k<nx→h' k=h k:=by
 refine aB L.aXV fun hd=>?_;have hmx:=hd _ _ hm;obtain⟨L0,hL,hx,hl⟩:=h0;have e:∀L:List EE,(L.map EE.p).map Ky=L.map EE.x:=fun L=>by rw[List.map_map];rfl
 refine ZK ?_;refine au ?_;refine pN ?_;refine au ?_;refine aU ((p9 m nx es0 c0 L0 hL hx _ (nx+1) or (by simp only[hm,(fls:(m=nx)=False),go_sem,reduceIte,jA,jB,jC,jD,reduceCtorEq,jE,jF]) (by simp only[go_sem,reduceIte,jA,jB,jC,jD,reduceCtorEq,jE,jF])).dom.mono ?_);rintro v h2 nx2 hle ⟨⟨es,c,L,p1,p2,p3,p4⟩,hd2,_⟩;unfold bT;refine Zn ?_;refine au ?_;refine aC h2 (Ka _) ⟨nx,es,c,rfl,Kx _,Zw,p1,⟨L,p2,?_,fun x=>?_⟩,fun k hk=>?_⟩
 ·have:=(p3.map Ky).nodup_iff;rw[e,e] at this;exact this.2 hx
 ·rw[←hl x];exact Cl p3 (by
   have:=(p3.map Ky).nodup_iff;rw[e,e] at this;rw[e];exact this.2 hx) x
 rw[p4 k or or];simp only[Kb];rw[if_neg or]
def mC(p:Vl×Int):Int×Int:=if p.2≠0 then (0,p.2) else if p.1.k≠1 then (0,7) else (p.1.n,0)
def opB(op a b:Int):Int:=if op=1 then a+b else if op=2 then a-b else a*b
def bV(l:List Tr):Nat→Ex→Vl×Int
 |0, .mk _ t _ _=>cQ t l
 |n+1, .mk op t _ ks=>if op=0 then cQ t l else match ks with
  | [a,b]=>if (mC (bV l n a)).2≠0 then (wV,(mC (bV l n a)).2) else if (mC (bV l n b)).2≠0 then (wV,(mC (bV l n b)).2) else ofV (opB op (mC (bV l n a)).1 (mC (bV l n b)).1)
  |_=>(wV,0)
theorem oh{t:Tr}{l:List Tr}(h:(cQ t l).2=0):bO (cQ t l).1=true:=by
 unfold cQ at h⊢;split
 ·rename_i h0;rw[if_pos h0] at h;split
  ·rename_i h1;exact h1
  rename_i h1;rw[if_neg h1] at h;cases h
 rename_i h0;rw[if_neg h0] at h;cases hk:lkB t.x l with
 |none=>rw[hk] at h;cases h
 |some w=>
  rw[hk] at h;simp only at h⊢;split
  ·rename_i h1;exact h1
  rename_i h1;rw[if_neg h1] at h;cases h
theorem EZ{n:Int}(h:(ofV n).2=0):bO (ofV n).1=true:=by
 unfold ofV at h⊢;split
 ·rename_i hb;simp only[bO];rw[hb];rfl
 rename_i hb;rw[if_neg hb] at h;cases h
theorem vC{l:List Tr}:∀{n:Nat} {e:Ex},fG n e=true→(bV l n e).2=0→bO (bV l n e).1=true
 |0, .mk op t o ks,_,h=>oh h
 |n+1, .mk op t o ks,hr,h=>by
  unfold bV at h⊢;unfold fG at hr;by_cases h0:op=0
  ·rw[if_pos h0] at h⊢;exact oh h
  rw[if_neg h0] at h hr⊢;match ks,hr with
  | [a,b],_=>
   simp only at h⊢;split
   ·rename_i h1;rw[if_pos h1] at h;exact absurd h h1
   rename_i h1;rw[if_neg h1] at h;split
   ·rename_i h2;rw[if_pos h2] at h;exact absurd h h2
   rename_i h2;rw[if_neg h2] at h;exact EZ h
theorem yg{l:List Tr}{n:Nat}{e:Ex}(hr:fG n e=true):-2147483647≤(mC (bV l n e)).1∧(mC (bV l n e)).1≤2147483647:=by
 unfold mC;split
 ·simp
 split
 ·simp
 rename_i h _;exact kv (vC hr (Classical.not_not.1 h))
theorem E4{a b:Int}(a1:-2147483647≤a)(a2:a≤2147483647)(b1:-2147483647≤b)(b2:b≤2147483647):-4611686014132420609≤a*b∧a*b≤4611686014132420609:=by
 have h1:a.natAbs*b.natAbs≤2147483647*2147483647:=Nat.mul_le_mul or or;have h2:(a*b).natAbs=a.natAbs*b.natAbs:=Int.natAbs_mul a b;omega
theorem E3{a b:Int}(a1:-2147483647≤a)(a2:a≤2147483647)(b1:-2147483647≤b)(b2:b≤2147483647):IntKind.i64.wrap (a*b)=a*b:=by
 have:=E4 a1 a2 b1 b2;exact wrp
theorem EQ(e:Int):veq (yB.iface true) (fM e) V.nilIface=some (decide (e=0)):=by
 unfold fM;split
 ·rename_i h;rw[decide_eq_true h];rfl
 rename_i h;rw[decide_eq_false h];rfl
theorem zh{e:Ex}{p:Vl×Int}{n:Nat}{es:List ME}{c:Nat}{h:Hp}(hm:h n=some (.mp es c))(hE:∀h':Hp,h' n=some (.mp es c)→aL Tryz.prog 46 [e.v, .map n] h' (.tup [p.1.v,fM p.2])):
 aL Tryz.prog 92 [e.v, .map n] h (.tup [.int .i64 (mC p).1,fM (mC p).2]):=by
 refine aI (fun L=>⟨trivial,eV L _,trivial⟩) fun h' nx hh=>aB L.aXt fun hd=>?_;refine ZK ?_;have hn1:=hh _ _ hm rfl;have hn2:n<nx:=hd _ _ hn1;have C:=hE (h'.set nx (.arr (.agg 6) [e.v])) (by simp only[Kb];rw[if_neg or];exact hn1);have hf:=Ex.aAD e;obtain⟨X,hX⟩:∃X,e.v=X:=⟨_,rfl⟩;rw[hX] at C hf⊢;have hv:=EQ p.2;have hwf:=Vl.aAD p.1;obtain⟨T,hT,hk0,hk1⟩:∃T,p.1.v= .agg T∧T.getD 0 (.tup [])= .int .i64 p.1.k∧T.getD 1 (.tup [])= .int .i64 p.1.n:=⟨_,rfl,rfl,rfl⟩;rw[hT] at C hwf;unfold mC;by_cases h0:p.2=0
 ·rw[decide_eq_true h0] at hv;rw[if_neg (by simp[h0])];by_cases h1:p.1.k=1
  ·have g1:(p.1.k != 1)=false:=bnf;rw[if_neg (by simp[h1])];refine aue hf ?_;refine aJ C rfl (aH _) ?_;refine aue (e5 hv hwf hk0 hk1 g1) ?_;exact aN h' (leo hd) ⟨rfl,rfl⟩
  have g1:(p.1.k != 1)=true:=bnt;rw[if_pos h1];refine aue hf ?_;refine aJ C rfl (aH _) ?_;refine aue (e5 hv hwf hk0 hk1 g1) ?_;exact aN h' (leo hd) ⟨rfl,rfl⟩
 rw[decide_eq_false h0] at hv;rw[if_pos h0];refine aue hf ?_;refine aJ C rfl (aH _) ?_;refine aue (e3 hv hwf hk0) ?_;exact aN h' (leo hd) ⟨rfl,rfl⟩
theorem sO(l:List Tr):∀(k:Nat) (e:Ex),fG k e=true→∀(n:Nat) (es:List ME) (c:Nat) (h:Hp),h n=some (.mp es c)→ei es l→aL Tryz.prog 46 [e.v, .map n] h (.tup [(bV l k e).1.v,fM (bV l k e).2]):=by
 have base:∀(t:Tr) (o:Own) (ks:List Ex) (n:Nat) (es:List ME) (c:Nat) (h:Hp),h n=some (.mp es c)→ei es l→aL Tryz.prog 46 [(Ex.mk 0 t o ks).v, .map n] h (.tup [(cQ t l).1.v,fM (cQ t l).2]):=by
  intro t o ks n es c h hm he;refine aI (fun L=>⟨Vl.aAN L _,eV L _,trivial⟩) fun h' nx hh=>aB L.aVN fun hd=>?_;refine ZK ?_;have hn1:=hh _ _ hm rfl;have hn2:n<nx:=hd _ _ hn1;have hev:(Ex.mk 0 t o ks).v= .agg [.int .i64 0, .str t.x, .int .i64 t.w.k, .int .i64 t.w.n, .str t.w.s, .sl (.agg 6) o (ks.map Ex.v)]:=by rw[Ex.aAl];rfl
  rw[hev];have hwf:=Vl.aAD (cQ t l).1;have hz:((0:Int)==0)=true:=rfl;have C:∀h,h n=some (.mp es c)→aL Tryz.prog 48 [.agg [.str t.x, .int .i64 t.w.k, .int .i64 t.w.n, .str t.w.s], .map n] h (.tup [(cQ t l).1.v,fM (cQ t l).2]):=fun h hm=>dy t l n es c h hm he;refine aue hz ?_;refine aJ (C _ ?_) rfl (aH _) ?_
  ·simp only[hn1,hn2,go_sem,reduceIte,jA,jB,jC,jD,reduceCtorEq,jE,jF]
  refine aue hwf ?_;refine bH (by simp only[hwf,bP hwf,go_sem,reduceIte,jA,jB,jC,jD,reduceCtorEq,jE,jF]) h' (leo hd) ⟨?_,rfl⟩;simp only[hwf,bP hwf,go_sem,reduceIte,jA,jB,jC,jD,reduceCtorEq,jE,jF]
 intro k;induction k with
 |zero=>
  rintro⟨op,t,o,ks⟩ hr n es c h hm he;obtain⟨rfl,_⟩:=of_decide_eq_true hr;exact base t o ks n es c h hm he
 |succ k ih=>
  rintro⟨op,t,o,ks⟩ hr n es c h hm he;by_cases h0:op=0
  ·subst h0;unfold bV;rw[if_pos rfl];exact base t o ks n es c h hm he
  unfold fG at hr;unfold bV;rw[if_neg h0] at hr⊢;match ks,hr with
  | [a,b],hr=>
   obtain⟨_,_,_,ha,hb⟩:=of_decide_eq_true hr;simp only;refine aI (fun L=>⟨Vl.aAN L _,eV L _,trivial⟩) fun h' nx hh=>aB L.aVN fun hd=>?_;refine ZK ?_;have hn1:=hh _ _ hm rfl;have hn2:n<nx:=hd _ _ hn1;have hev:(Ex.mk op t o [a,b]).v= .agg [.int .i64 op, .str t.x, .int .i64 t.w.k, .int .i64 t.w.n, .str t.w.s, .sl (.agg 6) o [a.v,b.v]]:=by rw[Ex.aAl];rfl
   rw[hev];have CA:∀h,h n=some (.mp es c)→aL Tryz.prog 92 [a.v, .map n] h (.tup [.int .i64 (mC (bV l k a)).1,fM (mC (bV l k a)).2]):=fun h hm=>zh hm fun h' hm'=>ih a ha n es c h' hm' he;have CB:∀h,h n=some (.mp es c)→aL Tryz.prog 92 [b.v, .map n] h (.tup [.int .i64 (mC (bV l k b)).1,fM (mC (bV l k b)).2]):=fun h hm=>zh hm fun h' hm'=>ih b hb n es c h' hm' he;obtain⟨a1,a2⟩:=yg (l:=l) ha;obtain⟨b1,b2⟩:=yg (l:=l) hb;have hfa:=Ex.aAD a;have hfb:=Ex.aAD b;generalize mC (bV l k a)=pa at*;generalize mC (bV l k b)=pb at*;have va:=EQ pa.2;have vb:=EQ pb.2;have hz:(op==0)=false:=bqf;generalize a.v=A at*;generalize b.v=B at*;refine aue (e2 hz hfa) ?_;refine aJ (CA _ ?_) rfl (aH _) ?_
   ·simp only[hn1,hn2,go_sem,reduceIte,jA,jB,jC,jD,reduceCtorEq,jE,jF]
   by_cases ea:pa.2=0
   ·rw[decide_eq_true ea] at va;rw[if_neg (by simp[ea])];refine aue (e3 hz hfb va) ?_;refine aJ (CB _ ?_) rfl (aH _) ?_
    ·simp only[hn1,hn2,go_sem,reduceIte,jA,jB,jC,jD,reduceCtorEq,jE,jF]
    by_cases eb:pb.2=0
    ·rw[decide_eq_true eb] at vb;rw[if_neg (by simp[eb])];have C1:=fun h=>Bn (opB op pa.1 pb.1) h;have hwf:=Vl.aAD (ofV (opB op pa.1 pb.1)).1;unfold opB at C1 hwf⊢;by_cases o1:op=1
     ·have g1:(op==1)=true:=bqt;rw[if_pos o1] at C1 hwf⊢;have hw:IntKind.i64.wrap (pa.1+pb.1)=pa.1+pb.1:=wrp;refine aue (e4 g1 vb hw hwf) ?_;refine bH (by simp only[hwf,bP hwf,go_sem,reduceIte,jA,jB,jC,jD,reduceCtorEq,jE,jF]) h' (leo hd) ⟨?_,rfl⟩;simp only[hwf,bP hwf,go_sem,reduceIte,jA,jB,jC,jD,reduceCtorEq,jE,jF]
     have g1:(op==1)=false:=bqf;rw[if_neg o1] at C1 hwf⊢;by_cases o2:op=2
     ·have g2:(op==2)=true:=bqt;rw[if_pos o2] at C1 hwf⊢;have hw:IntKind.i64.wrap (pa.1-pb.1)=pa.1-pb.1:=wrp;refine aue (e5 g1 g2 vb hw hwf) ?_;refine bH (by simp only[hwf,bP hwf,go_sem,reduceIte,jA,jB,jC,jD,reduceCtorEq,jE,jF]) h' (leo hd) ⟨?_,rfl⟩;simp only[hwf,bP hwf,go_sem,reduceIte,jA,jB,jC,jD,reduceCtorEq,jE,jF]
     have g2:(op==2)=false:=bqf;rw[if_neg o2] at C1 hwf⊢;have hw:IntKind.i64.wrap (pa.1*pb.1)=pa.1*pb.1:=E3 a1 a2 b1 b2;refine aue (e5 g1 g2 vb hw hwf) ?_;refine bH (by simp only[hwf,bP hwf,go_sem,reduceIte,jA,jB,jC,jD,reduceCtorEq,jE,jF]) h' (leo hd) ⟨?_,rfl⟩;simp only[hwf,bP hwf,go_sem,reduceIte,jA,jB,jC,jD,reduceCtorEq,jE,jF]
    rw[decide_eq_false eb] at vb;rw[if_pos eb];refine aue (e2 hz vb) ?_;refine bH (by simp only[go_sem,reduceIte,jA,jB,jC,jD,reduceCtorEq,jE,jF]) h' (leo hd) ⟨?_,rfl⟩;refine Zn ?_;rfl
   rw[decide_eq_false ea] at va;rw[if_pos ea];refine aue (e2 hz va) ?_;refine bH (by simp only[go_sem,reduceIte,jA,jB,jC,jD,reduceCtorEq,jE,jF]) h' (leo hd) ⟨?_,rfl⟩;refine Zn ?_;rfl
end Go.Proofs.YtlhedpgobaellaaGreatDoor
namespace Go.Proofs.YtlhedpgobaellaaGreatDoor
open Go.RowKit Go.Sort
attribute [local irreducible] IntKind.wrap
def jm(op:Int)(a b:Vl):Bool×Int:=
 if 3≤op∧(a.k≠1∨b.k≠1) then (false,7) else
 (if op=1 then decide (a=b) else if op=2 then !decide (a=b) else if op=3 then decide (a.n<b.n) else if op=4 then decide (a.n≤b.n) else if op=5 then decide (b.n<a.n) else decide (b.n≤a.n),0)
theorem s4(op:Int)(a b:Vl)(h1:1≤op)(h6:op≤6)(ha:bO a=true)(hb:bO b=true)(h:Hp):aL Tryz.prog 47 [.int .i64 op,a.v,b.v] h (.tup [.bool (jm op a b).1,fM (jm op a b).2]):=by
 refine aI (fun L=>⟨trivial,eV L _,trivial⟩) fun h' nx hh=>aB L.aYE fun hd=>?_;simp only[Kz,KB,Ks,Kt,Ku,Kv,KA,KC,V.undef];have C1:=fun h=>gS a h;have C2:=fun h=>gS b h;rw[ha] at C1;rw[hb] at C2;have hv:=yQ a b;have hfa:=Vl.aAD a;have hfb:=Vl.aAD b;obtain⟨A,hA,ak,an⟩:∃T,a.v= .agg T∧T.getD 0 (.tup [])= .int .i64 a.k∧T.getD 1 (.tup [])= .int .i64 a.n:=⟨_,rfl,rfl,rfl⟩;obtain⟨B,hB,bk,bn⟩:∃T,b.v= .agg T∧T.getD 0 (.tup [])= .int .i64 b.k∧T.getD 1 (.tup [])= .int .i64 b.n:=⟨_,rfl,rfl,rfl⟩;rw[hA] at C1 hv hfa⊢;rw[hB] at C2 hv hfb⊢;have z1:decide (op<1)=false:=dcf;have z6:decide ((6:Int)<op)=false:=dcf;unfold jm;by_cases h3:3≤op
 ·have z3:decide (3≤op)=true:=dct;have e1:(op==1)=false:=bqf;have e2':(op==2)=false:=bqf;have n1:¬op=1:=or;have n2:¬op=2:=or;by_cases ka:a.k=1
  ·have ga:(a.k != 1)=false:=bnf;by_cases kb:b.k=1
   ·have gb:(b.k != 1)=false:=bnf;rw[if_neg (by simp[ka,kb]),if_neg n1,if_neg n2];by_cases o3:op=3
    ·have g3:(op==3)=true:=bqt;rw[if_pos o3];refine aue (e14 z1 z6 z3 hfa hfb ak an bk bn e1 e2' ga gb g3) ?_;exact aN h' (leo hd) ⟨rfl,rfl⟩
    have g3:(op==3)=false:=bqf;rw[if_neg o3];by_cases o4:op=4
    ·have g4:(op==4)=true:=bqt;rw[if_pos o4];refine aue (e14 z1 z6 z3 hfa hfb ak an bk bn e1 e2' ga gb (e2 g3 g4)) ?_;exact aN h' (leo hd) ⟨rfl,rfl⟩
    have g4:(op==4)=false:=bqf;rw[if_neg o4];by_cases o5:op=5
    ·have g5:(op==5)=true:=bqt;rw[if_pos o5];refine aue (e14 z1 z6 z3 hfa hfb ak an bk bn e1 e2' ga gb (e3 g3 g4 g5)) ?_;exact aN h' (leo hd) ⟨rfl,rfl⟩
    have g5:(op==5)=false:=bqf;rw[if_neg o5];refine aue (e14 z1 z6 z3 hfa hfb ak an bk bn e1 e2' ga gb (e3 g3 g4 g5)) ?_;exact aN h' (leo hd) ⟨rfl,rfl⟩
   have gb:(b.k != 1)=true:=bnt;rw[if_pos ⟨h3, .inr kb⟩];refine aue (e12 z1 z6 z3 hfa hfb ak an bk bn ga gb trivial) ?_;exact aN h' (leo hd) ⟨rfl,rfl⟩
  have ga:(a.k != 1)=true:=bnt;rw[if_pos ⟨h3, .inl ka⟩];refine aue (e10 z1 z6 z3 hfa hfb ak an bk bn ga) ?_;exact aN h' (leo hd) ⟨rfl,rfl⟩
 have z3:decide (3≤op)=false:=dcf;rw[if_neg (fun e=>h3 e.1)];by_cases o1:op=1
 ·have g1:(op==1)=true:=bqt;rw[if_pos o1];refine aue (e7 z1 z6 z3 hfa hfb hv g1) ?_;exact aN h' (leo hd) ⟨rfl,rfl⟩
 have g1:(op==1)=false:=bqf;have g2:(op==2)=true:=bqt;rw[if_neg o1,if_pos or];refine aue (e8 z1 z6 z3 hfa hfb hv g1 g2) ?_;exact aN h' (leo hd) ⟨rfl,rfl⟩
theorem rK(l:Li)(hr:bW l=true)(h3:l.k=3)(h:Hp):aL Tryz.prog 45 [l.v] h (.bool true):=by
 refine aI (fun L=>trivial) fun h' nx hh=>aB L.aYF fun hd=>?_;simp only[Kz,KB,Ks,Kt,Ku,Kv,KA,KC,V.undef];have C1:=fun h=>ij l h;rw[hr] at C1;have hf:=Li.aAD l;obtain⟨T,hT,hk⟩:∃T,l.v= .agg T∧T.getD 0 (.tup [])= .int .i64 l.k:=⟨_,rfl,rfl⟩;rw[hT] at C1 hf⊢;have g:(l.k==3)=true:=bqt;refine aue (e3 hf hk g) ?_;exact aC h' (leo hd) ⟨rfl,rfl⟩
theorem sB{l:Li}(hr:bW l=true)(h3:l.k=3):1≤l.op∧l.op≤6∧fG 20 l.x=true∧fG 20 l.y=true:=by
 unfold bW at hr;rw[if_neg or] at hr;simp only[Bool.and_eq_true,decide_eq_true_eq] at hr;exact⟨or,or,hr.1.2,hr.2⟩
def lD(l:List Tr)(x:Li):Bool×Int:=if (bV l 20 x.x).2≠0 then (false,(bV l 20 x.x).2) else if (bV l 20 x.y).2≠0 then (false,(bV l 20 x.y).2) else jm x.op (bV l 20 x.x).1 (bV l 20 x.y).1
theorem dx(l:List Tr)(x:Li)(hr:bW x=true)(h3:x.k=3)(n:Nat)(es:List ME)(c:Nat)(h:Hp)(hm:h n=some (.mp es c))(he:ei es l):aL Tryz.prog 11 [x.v, .map n] h (.tup [.bool (lD l x).1,fM (lD l x).2]):=by
 refine aI (fun L=>⟨trivial,eV L _,trivial⟩) fun h' nx hh=>aB L.g5z fun hd=>?_;simp only[Kz,KB,Ks,Kt,Ku,Kv,KA,KC,V.undef];obtain⟨p1,p6,px,py⟩:=sB hr h3;have hn1:=hh _ _ hm rfl;have hn2:n<nx:=hd _ _ hn1;have C1:=fun h=>rK x hr h3 h;have CX:=fun h hm=>sO l 20 x.x px n es c h hm he;have CY:=fun h hm=>sO l 20 x.y py n es c h hm he;have hvx:=eO (bV l 20 x.x).2;have hvy:=eO (bV l 20 x.y).2;have hrx:=fun e=>vC (l:=l) px e;have hry:=fun e=>vC (l:=l) py e;unfold lD;generalize bV l 20 x.x=P at*;generalize bV l 20 x.y=Q at*;have hfP:=Vl.aAD P.1;have hfQ:=Vl.aAD Q.1;have hf:=Li.aAD x;have hXf:=Ex.aAD x.x;have hYf:=Ex.aAD x.y;obtain⟨T,hT,htx,hty,hto⟩:∃T,x.v= .agg T∧(.agg ((T.drop 4).take 6))=x.x.v∧(.agg ((T.drop 10).take 6))=x.y.v∧(V.agg T).cell 3= .int .i64 x.op:=⟨_,rfl,by rw[Ex.aAl];rfl,by rw[Ex.aAl];rfl,rfl⟩;have hlx:bE (.agg 6) 4 (.agg T)=x.x.v:=htx;have hly:bE (.agg 6) 10 (.agg T)=x.y.v:=hty;rw[hT] at C1 hf⊢;generalize x.x.v=X at*;generalize x.y.v=Y at*;have hto:T.getD 3 (.tup [])= .int .i64 x.op:=hto;refine aue (e4 hf hlx hly hXf) ?_;refine aJ (CX _ ?_) rfl (aH _) ?_
 ·simp only[hn1,hn2,go_sem,reduceIte,Ks,Kt,KM,KF,reduceCtorEq,KG,KJ]
 by_cases e1:P.2=0
 ·rw[decide_eq_true e1] at hvx;rw[if_neg (by simp[e1])];refine aue (e6 hf hlx hly hYf hvx hfP) ?_;refine aJ (CY _ ?_) rfl (aH _) ?_
  ·simp only[hn1,hn2,go_sem,reduceIte,Ks,Kt,KM,KF,reduceCtorEq,KG,KJ]
  by_cases e2':Q.2=0
  ·rw[decide_eq_true e2'] at hvy;rw[if_neg (by simp[e2'])];have C2:=fun h=>s4 x.op P.1 Q.1 p1 p6 (hrx e1) (hry e2') h;clear C1;generalize P.1.v=PV at*;generalize Q.1.v=QV at*;refine aue (e6 hf hto hvy hfP hfQ hvx) ?_;exact aN h' (leo hd) ⟨rfl,rfl⟩
  rw[decide_eq_false e2'] at hvy;rw[if_pos e2'];refine aue (e5 hf hlx hly hvy hfQ) ?_;exact aN h' (leo hd) ⟨rfl,rfl⟩
 rw[decide_eq_false e1] at hvx;rw[if_pos e1];refine aue (e5 hf hlx hly hvx hfP) ?_;exact aN h' (leo hd) ⟨rfl,rfl⟩
end Go.Proofs.YtlhedpgobaellaaGreatDoor
namespace Go.Proofs.YtlhedpgobaellaaGreatDoor
open Go.RowKit Go.Sort
attribute [local irreducible] IntKind.wrap
def fF(l:List Tr)(e:Ex):ByteArray:=if e.op≠0∨(lkB e.t.x l).isSome=true then ⟨#[]⟩ else e.t.x
theorem oV{l:List Tr}{e:Ex}(h:(fF l e).size≠0):lkB (fF l e) l=none:=by
 unfold fF at h⊢;split at h
 ·exact absurd rfl h
 rename_i hc;rw[if_neg hc];simp only[not_or,Bool.not_eq_true,Option.isSome_eq_false_iff,Option.isNone_iff_eq_none] at hc;exact hc.2
theorem yX(l:List Tr)(e:Ex)(n:Nat)(es:List ME)(c:Nat)(h:Hp)(hm:h n=some (.mp es c))(he:ei es l):aL Tryz.prog 127 [e.v, .map n] h (.str (fF l e)):=by
 refine aI (fun L=>trivial) fun h' nx hh=>aB L.aXU fun hd=>?_;refine ZK ?_;have hn1:=hh _ _ hm rfl;have hn2:n<nx:=hd _ _ hn1;obtain⟨op,t,o,ks⟩:=e;have hev:(Ex.mk op t o ks).v= .agg [.int .i64 op, .str t.x, .int .i64 t.w.k, .int .i64 t.w.n, .str t.w.s, .sl (.agg 6) o (ks.map Ex.v)]:=by rw[Ex.aAl];rfl
 rw[hev];obtain⟨R,hR⟩:∃R,(if op≠0∨(lkB t.x l).isSome=true then ⟨#[]⟩ else t.x)=R:=⟨_,rfl⟩;have hu:fF l (Ex.mk op t o ks)=R:=hR;rw[hu];clear hu hev;have hx:=he t.x;cases k:lkB t.x l with
 |none=>
  rw[k] at hx hR;have hg0:iM true (.agg [.int .i64 0, .int .i64 0, .str ⟨#[]⟩]) es none= .tup [.agg [.int .i64 0, .int .i64 0, .str ⟨#[]⟩], .bool false]:=rfl;by_cases h0:op=0
  ·have g:(op != 0)=false:=bnf;refine aue (e5 hn1 hn2 hx hg0 g) ?_;refine aC h' (leo hd) ⟨?_,rfl⟩;rw[if_neg (by simp[h0])] at hR;rw[←hR];rfl
  have g:(op != 0)=true:=bnt;refine aue (e5 hn1 hn2 hx hg0 g) ?_;refine aC h' (leo hd) ⟨?_,rfl⟩;rw[if_pos (Or.inl h0)] at hR;rw[←hR];rfl
 |some w=>
  rw[k] at hx hR;obtain⟨j,hj1,hj2,hj3⟩:=hx;have hg0:iM true (.agg [.int .i64 0, .int .i64 0, .str ⟨#[]⟩]) es (some j)= .tup [w.v, .bool true]:=by rw[←hj2];rfl
  have hwf:=Vl.aAD w;by_cases h0:op=0
  ·have g:(op != 0)=false:=bnf;refine aue (e6 hn1 hn2 hj1 hg0 g hwf) ?_;refine aC h' (leo hd) ⟨?_,rfl⟩;rw[if_pos Zm] at hR;rw[←hR];rfl
  have g:(op != 0)=true:=bnt;refine aue (e6 hn1 hn2 hj1 hg0 g hwf) ?_;refine aC h' (leo hd) ⟨?_,rfl⟩;rw[if_pos (Or.inl h0)] at hR;rw[←hR];rfl
def ki(l:List Tr)(x:ByteArray)(e:Ex):Option (List Tr)×Int:=if (bV l 20 e).2≠0 then (none,(bV l 20 e).2) else (some (l++[⟨x,(bV l 20 e).1⟩]),0)
def nS(l:List Tr)(x:Li):Option (List Tr)×Int:=
 if x.op=1∧(fF l x.x).size≠0 then ki l (fF l x.x) x.y
 else if x.op=1∧(fF l x.y).size≠0 then ki l (fF l x.y) x.x
 else if (lD l x).2≠0∨(lD l x).1=false then (none,(lD l x).2) else (some l,0)
def F7(r:Option (List Tr)×Int)(nx:Nat)(v:V)(h':Hp)(nx':Nat):Prop:=match r.1 with
 |none=>v= .tup [.aAH, .bool false,fM r.2]
 |some l=>∃n es c,v= .tup [.map n, .bool true, .nilIface]∧nx≤n∧n<nx'∧h' n=some (.mp es c)∧sS es c l
theorem dz(l:List Tr)(x:ByteArray)(hx:lkB x l=none)(e:Ex)(hr:fG 20 e=true)(n:Nat)(es:List ME)(c:Nat)(h:Hp)(nx:Nat)(hm:h n=some (.mp es c))(he:sS es c l):
 aR Tryz.prog 128 [.map n, .str x,e.v] h nx fun v h' nx'=>F7 (ki l x e) nx v h' nx'∧∀k,k<nx→h' k=h k:=by
 refine aB L.aXT fun hd=>?_;refine ZK ?_;have hn2:n<nx:=hd _ _ hm;have CX:=fun h hm=>sO l 20 e hr n es c h hm he.at
 have hv:=eO (bV l 20 e).2;unfold ki;generalize bV l 20 e=P at*;have hfP:=Vl.aAD P.1;have hf:=Ex.aAD e;generalize e.v=X at*;refine aue hf ?_;refine aJ (CX _ ?_) rfl (aH _) ?_
 ·simp only[hm,hn2,go_sem,reduceIte,jA,jB,jC,jD,reduceCtorEq,jE,jF]
 by_cases e1:P.2=0
 ·rw[decide_eq_true e1] at hv;rw[if_neg (by simp[e1])];refine aue (e2 hv hfP) ?_;refine aU ((mP n es c l he _ _ ?_).dom.mono ?_)
  ·simp only[hm,hn2,go_sem,reduceIte,jA,jB,jC,jD,reduceCtorEq,jE,jF]
  rintro v h2 nx2 hle ⟨⟨n2,es2,c2,rfl,p1,p2,p3,p4,p5⟩,hd2,_⟩;unfold bT;dsimp only at p1 p5;refine Zn ?_;have hx2:=p4.at x;rw[hx] at hx2;have hb9:h2 (nx+1)=some (.arr (.agg 3) [P.1.v]):=by rw[p5 (nx+1) or];simp only[go_sem,reduceIte,jA,jB,jC,jD,reduceCtorEq,jE,jF]
  have n9:nx+1<nx2:=or;have hk2:∀k,k<nx→h2 k=h k:=fun k hk=>by
   rw[p5 k or];simp only[Kb];repeat rw[if_neg or]
  refine aue (e3 hb9 hfP n9) ?_;refine nL (es:=es2) (c:=c2) (n:=n2) rfl rfl (by simp only[p3,go_sem,reduceIte,jA,jB,jC,jD,reduceCtorEq,jE,jF]) hx2 ?_;refine Zn ?_;refine au ?_;refine bU _ (Ka _) ⟨⟨n2,_,_,rfl,or,Zw,by simp only[Kb,if_true],p4.add ⟨x,P.1⟩ hx⟩,fun k hk=>?_⟩;simp only[Kb];rw[if_neg or];exact hk2 k hk
 rw[decide_eq_false e1] at hv;rw[if_pos e1];refine aue (e2 hv hfP) ?_;refine⟨_,Ka _,rfl,fun k hk=>?_⟩;simp only[Kb];repeat rw[if_neg or]
theorem mz(l:List Tr)(x:Li)(hr:bW x=true)(h3:x.k=3)(n:Nat)(es:List ME)(c:Nat)(h:Hp)(nx:Nat)(hm:h n=some (.mp es c))(he:sS es c l):
 aR Tryz.prog 81 [x.v, .map n] h nx fun v h' nx'=>F7 (nS l x) nx v h' nx'∧∀k,k<nx→h' k=h k:=by
 refine aB L.aX2 fun hd=>?_;refine ZK ?_;have hn2:n<nx:=hd _ _ hm;obtain⟨p1,p6,px,py⟩:=sB hr h3;have C1:=fun h=>rK x hr h3 h;have UX:=fun h hm=>yX l x.x n es c h hm he.at
 have UY:=fun h hm=>yX l x.y n es c h hm he.at
 have TT:=fun h hm=>dx l x hr h3 n es c h hm he.at
 have hf:=Li.aAD x;have hXf:=Ex.aAD x.x;have hYf:=Ex.aAD x.y;have SX:=fun hz h nx hm=>dz l (fF l x.x) (oV hz) x.y py n es c h nx hm he;have SY:=fun hz h nx hm=>dz l (fF l x.y) (oV hz) x.x px n es c h nx hm he;obtain⟨T,hT,htx,hty,hto⟩:∃T,x.v= .agg T∧(.agg ((T.drop 4).take 6))=x.x.v∧(.agg ((T.drop 10).take 6))=x.y.v∧(V.agg T).cell 3= .int .i64 x.op:=⟨_,rfl,by rw[Ex.aAl];rfl,by rw[Ex.aAl];rfl,rfl⟩;have hlx:bE (.agg 6) 4 (.agg T)=x.x.v:=htx;have hly:bE (.agg 6) 10 (.agg T)=x.y.v:=hty;have hto:T.getD 3 (.tup [])= .int .i64 x.op:=hto;rw[hT] at C1 TT hf⊢;unfold nS;generalize fF l x.x=A at*;generalize fF l x.y=B at*;generalize lD l x=R at*;generalize x.x.v=X at*;generalize x.y.v=Y at*;obtain⟨H,hH⟩:∃H,h.set nx (.arr (.agg 17) [.agg T])=H:=⟨_,rfl⟩;have hHn:H n=some (.mp es c):=by rw[←hH];simp only[Kb];rw[if_neg or];exact hm
 have D1:=UX H hHn;have D2:=UY H hHn;have TT:=TT H hHn;rw[←hH] at D1 D2 TT;generalize hDC:aS.draw _ _ _=DC;refine aue hf ?_;rw[←hDC];refine jZ rfl ?_;have zA:=vS A;have zB:=vS B;refine aue (e3 hf hlx hXf) ?_;refine bC D1 rfl (aH _) ?_;refine aue (e3 hf hly hYf) ?_;refine bC D2 rfl (aH _) ?_;have hvR:=eO R.2;by_cases o1:x.op=1
 ·have g1:(x.op==1)=true:=bqt;by_cases hA:A.size=0
  ·rw[decide_eq_true hA] at zA;rw[if_neg (fun e=>e.2 hA)];by_cases hB:B.size=0
   ·rw[decide_eq_true hB] at zB;rw[if_neg (fun e=>e.2 hB)];refine aue (e5 hf hto g1 zA zB) ?_;refine aJ TT rfl (aH _) ?_;by_cases hR2:R.2=0
    ·rw[decide_eq_true hR2] at hvR;cases hR1:R.1 with
     |true=>
      rw[if_neg (by simp[hR2])];refine aue (e2 hvR hR1) ?_;refine aU ((mP n es c l he _ _ ?_).dom.mono ?_)
      ·simp only[hm,hn2,go_sem,reduceIte,jA,jB,jC,jD,reduceCtorEq,jE,jF]
      rintro v h2 nx2 hle ⟨⟨n2,es2,c2,rfl,q1,q2,q3,q4,q5⟩,hd2,_⟩;unfold bT;dsimp only at q1 q5;refine Zn ?_;refine au ?_;refine bU _ (Ka _) ⟨⟨n2,es2,c2,rfl,or,Zw,q3,q4⟩,fun k hk=>?_⟩;refine(q5 k or).trans ?_;simp only[Kb];rw[if_neg or]
     |false=>
      rw[if_pos (.inr rfl)];refine aue (e2 hvR hR1) ?_;refine bU _ (Ka _) ⟨rfl,fun k hk=>?_⟩;simp only[Kb];rw[if_neg or]
    rw[decide_eq_false hR2] at hvR;rw[if_pos (.inl hR2)];refine aue hvR ?_;refine bU _ (Ka _) ⟨rfl,fun k hk=>?_⟩;simp only[Kb];rw[if_neg or]
   rw[decide_eq_false hB] at zB;rw[if_pos ⟨o1,hB⟩];refine aue (e7 hf hto g1 zA zB hlx hXf) ?_;refine aU ((SY hB _ _ ?_).dom.mono ?_)
   ·simp only[hm,hn2,go_sem,reduceIte,jA,jB,jC,jD,reduceCtorEq,jE,jF]
   rintro v h2 nx2 hle ⟨⟨q,hk⟩,hd2,_⟩;unfold bT;dsimp only at q hk;have hk2:∀k,k<nx→h2 k=h k:=fun k hkn=>by
    rw[hk k or];simp only[Kb];rw[if_neg or]
   obtain⟨⟨r,e⟩,hr⟩:∃r,ki l B x.x=r:=⟨_,rfl⟩;rw[hr] at q⊢;cases r with
   |none=>
    have q:v= .tup [.aAH, .bool false,fM e]:=q;subst q;refine Zn ?_;refine au ?_;exact bU _ (Ka _) ⟨rfl,hk2⟩
   |some l2=>
    obtain⟨n2,es2,c2,q1,q2,q3,q4,q5⟩:=q;subst q1;refine Zn ?_;refine au ?_;exact bU _ (Ka _) ⟨⟨n2,es2,c2,rfl,or,Zw,q4,q5⟩,hk2⟩
  rw[decide_eq_false hA] at zA;rw[if_pos ⟨o1,hA⟩];refine aue (e6 hf hto g1 zA hly hYf) ?_;refine aU ((SX hA _ _ ?_).dom.mono ?_)
  ·simp only[hm,hn2,go_sem,reduceIte,jA,jB,jC,jD,reduceCtorEq,jE,jF]
  rintro v h2 nx2 hle ⟨⟨q,hk⟩,hd2,_⟩;unfold bT;dsimp only at q hk;have hk2:∀k,k<nx→h2 k=h k:=fun k hkn=>by
   rw[hk k or];simp only[Kb];rw[if_neg or]
  obtain⟨⟨r,e⟩,hr⟩:∃r,ki l A x.y=r:=⟨_,rfl⟩;rw[hr] at q⊢;cases r with
  |none=>
   have q:v= .tup [.aAH, .bool false,fM e]:=q;subst q;refine Zn ?_;refine au ?_;exact bU _ (Ka _) ⟨rfl,hk2⟩
  |some l2=>
   obtain⟨n2,es2,c2,q1,q2,q3,q4,q5⟩:=q;subst q1;refine Zn ?_;refine au ?_;exact bU _ (Ka _) ⟨⟨n2,es2,c2,rfl,or,Zw,q4,q5⟩,hk2⟩
 have g1:(x.op==1)=false:=bqf;rw[if_neg (fun e=>o1 e.1),if_neg (fun e=>o1 e.1)];refine aue (e3 hf hto g1) ?_;refine aJ TT rfl (aH _) ?_;by_cases hR2:R.2=0
 ·rw[decide_eq_true hR2] at hvR;cases hR1:R.1 with
  |true=>
   rw[if_neg (by simp[hR2])];refine aue (e2 hvR hR1) ?_;refine aU ((mP n es c l he _ _ ?_).dom.mono ?_)
   ·simp only[hm,hn2,go_sem,reduceIte,jA,jB,jC,jD,reduceCtorEq,jE,jF]
   rintro v h2 nx2 hle ⟨⟨n2,es2,c2,rfl,q1,q2,q3,q4,q5⟩,hd2,_⟩;unfold bT;dsimp only at q1 q5;refine Zn ?_;refine au ?_;refine bU _ (Ka _) ⟨⟨n2,es2,c2,rfl,or,Zw,q3,q4⟩,fun k hk=>?_⟩;refine(q5 k or).trans ?_;simp only[Kb];rw[if_neg or]
  |false=>
   rw[if_pos (.inr rfl)];refine aue (e2 hvR hR1) ?_;refine bU _ (Ka _) ⟨rfl,fun k hk=>?_⟩;simp only[Kb];rw[if_neg or]
 rw[decide_eq_false hR2] at hvR;rw[if_pos (.inl hR2)];refine aue hvR ?_;refine bU _ (Ka _) ⟨rfl,fun k hk=>?_⟩;simp only[Kb];rw[if_neg or]
end Go.Proofs.YtlhedpgobaellaaGreatDoor
