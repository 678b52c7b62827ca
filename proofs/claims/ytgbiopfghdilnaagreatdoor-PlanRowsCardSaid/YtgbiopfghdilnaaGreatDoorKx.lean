/-
Texts of this proof,one behind the other. No conditions.
-/
import Derived.Test.YtgbiopfghdilnaaGreatDoorKv
open List renaming length_map→Ka,length_cons→Kb,drop_eq_getElem_cons→Kd,take_succ_eq_append_getElem→Kg,replicate_succ→Kh,replicate_zero→Ki,length_nil→Kj,cons_append→Km,nil_append→Ko,map_append→Kq,drop_of_length_le→Kw,take_append_drop→Ky,map_nil→KA,length_take→KD,map_cons→KI
open Int renaming toNat_natCast→Kc,reduceToNat→Kx,natCast_zero→KC,natCast_add→KE,natCast_one→KF
open Nat renaming reduceAdd→Ke,reduceSub→Kf,le_refl→Kp,lt_or_ge→Ks,zero_le→Kt,reduceLeDiff→Ku,reduceEqDiff→Kv,reduceLT→Kz,succ_le_succ→KB
open Go.IntKind renaming wrap→Kk
open Bool renaming not_false→KG,not_true→KH
open Nat renaming reduceAdd→jA,reduceSub→jB,reduceLT→jC,reduceLeDiff→jD,reduceEqDiff→jE
open Int renaming reduceToNat→jF,toNat_natCast→jG,natCast_add→jH,natCast_one→jI,natCast_zero→jJ
open List renaming length_map→jK,cons_append→jP
set_option linter.all false
set_option maxHeartbeats 8000000
namespace Go.Proofs.YtgbiopfghdilnaaGreatDoor
open Go.RowKit Go.Sort
attribute [local irreducible] Kk
theorem qz{a b:List Vl}:∀(i:Nat),a.take i=b.take i→i≤a.length→i≤b.length→mB a b=mB (a.drop i) (b.drop i):=fun i h h1 h2=>by
 conv=>lhs;rw[←Ky i a,←Ky i b,←h]
 clear h h1 h2;induction a.take i with
 |nil=>rfl
 |cons x l ih=>
  simp only[jP,mB,eV,orC,c3V.self,if_true];exact ih
theorem dh(o1 o2:Own)(a b:List Vl)(ha:a.length≤1000000000)(h:Hp):aK Tryz.prog 111 [vls o1 a,vls o2 b] h (.bool (qY a b)):=by
 refine aH (fun L=>trivial) fun h' nx hh=>aB L.bCf fun hd=>?_;refine ZK ?_;refine au ?_;refine aO (fun i:Nat=>aD 41 0 [(0,vls o1 a),(1,vls o2 b),(5, .int .i64 i)]) (fun i hp nx1=>i≤a.length∧i≤b.length∧nx≤nx1∧aS hp nx1∧Hp.same nx h' hp∧a.take i=b.take i) (fun i=>a.length-i) 0 ⟨Kt _,Kt _,Kp _,hd,Hp.same.aAn,rfl⟩ (by simp only[WkL,aD,jH,jI,jJ,go_sem,reduceIte,jA,jB,jC,jD,reduceCtorEq,jE,jF]) ?_;rintro i hp nx1 ⟨hi,hib,hnx,hdm,hsm,htk⟩;generalize hQ:aV _ _ _ _ _=Q0;refine Zk ?_;have hle:=hsm.le hd (Hp.le_refl _);have hcm:=qz i htk hi hib;rcases Ks i a.length with hlt|hge
 ·have hc:decide ((i:Int)<(a.length:Int))=true:=dct;have hw:IntKind.i64.wrap ((i:Int)+1)=((i+1:Nat):Int):=wrp;rcases Ks i b.length with hlb|hgb
  ·have hc2:decide ((i:Int)<(b.length:Int))=true:=dct;have hg:=aJ Vl.v a i hlt;have hg2:=aJ Vl.v b i hlb;have hv:=qA a[i] b[i];have E:=e11 hc hc2 hw hg hg2 hv hlt hlb (@jK Vl V) jG Vl.aAA;cases he:decide (a[i]=b[i]) with
   |true=>
    have he':a[i]=b[i]:=of_decide_eq_true he;refine aue (e4 E he KH KG) ?_;rw[←hQ];exact aF (i+1) or ⟨hlt,hlb,or,dmo hdm,kep hsm,by rw[Kg hlt,Kg hlb,htk,he']⟩ (by simp only[WkL,aD,jH,jI,jJ,hw,go_sem,reduceIte,jA,jB,jC,jD,reduceCtorEq,jE,jF])
   |false=>
    have he':a[i]≠b[i]:=of_decide_eq_false he;have D1:=fun h=>r7 a[i] b[i] h;refine aue (e4 E he KH KG) ?_;rw[←hQ];refine au ?_;refine aC h' (lef hd hle) ⟨?_,rfl⟩;have:qY a b=BB a[i] b[i]:=by
     unfold qY BB;rw[hcm,Kd hlt,Kd hlb];simp only[mB,eV,orC,if_neg (fun e=>he' ((c3V.eq _ _).1 e))]
    simp only[this,go_sem,reduceIte,jA,jB,jC,jD,reduceCtorEq,jE,jF]
  have hc2:decide ((i:Int)<(b.length:Int))=false:=dcf;have hl2:decide ((a.length:Int)<(b.length:Int))=false:=dcf;refine aue (e4 hc hc2 (@jK Vl V) hl2) ?_;rw[←hQ];refine aue (e2 (@jK Vl V) hl2) ?_;refine aC h' (lef hd hle) ⟨?_,rfl⟩;have:qY a b=false:=by
   unfold qY;rw[hcm,Kd hlt,Kw hgb];rfl
  simp only[this,go_sem,reduceIte,jA,jB,jC,jD,reduceCtorEq,jE,jF]
 have hc:decide ((i:Int)<(a.length:Int))=false:=dcf;have hia:i=a.length:=or;have:qY a b=decide ((a.length:Int)<(b.length:Int)):=by
  unfold qY;rw[hcm,hia,List.drop_length];rcases Ks a.length b.length with k|k
  ·rw[Kd k,decide_eq_true (by omega:(a.length:Int)<b.length)];rfl
  rw[Kw k,decide_eq_false (by omega:¬(a.length:Int)<b.length)];rfl
 refine aue hc ?_;rw[←hQ];refine aue (@jK Vl V) ?_;refine aC h' (lef hd hle) ⟨?_,rfl⟩;simp only[this,go_sem,reduceIte,jA,jB,jC,jD,reduceCtorEq,jE,jF]
end Go.Proofs.YtgbiopfghdilnaaGreatDoor
namespace Go.Proofs.YtgbiopfghdilnaaGreatDoor
open Go.RowKit Go.Sort
attribute [local irreducible] Kk
theorem rU(o:Own)(ho:∀n,o≠ .tok n)(l:List Tr)(L:Nat→Prop):(trs o l).names L:=⟨fun n e=>absurd e (ho n),aT (fun x=>Tr.aAK L x) _⟩
theorem xQ(o:Own)(l:List Tr)(hl:l.length≤1000000)(x:ByteArray)(w:Vl)(h:Hp):aK Tryz.prog 109 [trs o l, .str x,w.v] h (trs .free (l++[⟨x,w⟩])):=by
 refine bK (fun L=>rU _ (fun n e=>by cases e) _ L) fun h' nx hh=>aB L.bCh fun hd=>?_;have hd:aS h' nx:=hd;simp only[Kb,Kj,Ke,Kf,Kh,Ki,Km,Ko,V.undef];have hwf:w.v= .agg [.int .i64 w.k, .int .i64 w.n, .str w.s]:=rfl;have hl1:l.length*48≤140737488355328:=or;have hl2:(l.length+1)*48≤140737488355328:=or;have ca:∀H,oT H (nx+1) [0,1,2,3,4,5,6] [some Blk.tip,none,some Blk.tip,none,none,none,some Blk.tip] [none,none,some {n:=nx+1,old:=Blk.tip,new:=none},none,none,none,none] (nx+3) Blk.tip:=fun H=>AP (d:=2) rfl ZM rfl (by simp[dD]);refine aue (e7 hwf hl1 hl2 trs.eq_1 (@Ka Tr V) Nat.mul_one ca) ?_;refine aC h' (leo hd) ⟨?_,?_⟩
 ·simp only[trs,Kq];rfl
 exact leo hd
theorem E0:∀(xs:List ByteArray) (vs:List Vl),(dW xs vs).length≤xs.length
 | [],vs=>by simp[dW]
 |x::xs,[]=>by simp[dW]
 |x::xs,v::vs=>by
  unfold dW;rw[Kb,Kb];exact KB (E0 xs vs)
theorem oO:∀(xs:List ByteArray) (vs:List Vl),(dW xs vs).length≤vs.length
 | [],vs=>by simp[dW]
 |x::xs,[]=>by simp[dW]
 |x::xs,v::vs=>by
  unfold dW;rw[Kb,Kb];exact KB (oO xs vs)
theorem wq:∀(xs:List ByteArray) (vs:List Vl) (i:Nat),i≤xs.length→i≤vs.length→(xs.length≤i∨vs.length≤i)→dW (xs.take i) (vs.take i)=dW xs vs
 | [],vs,i,_,_,_=>by simp[dW]
 |x::xs,[],i,_,h,_=>by simp only[Kj,Nat.le_zero] at h;subst h;rfl
 |x::xs,v::vs,0,_,_,h=>by simp at h
 |x::xs,v::vs,i+1,h1,h2,h3=>by
  simp only[List.take_succ_cons,dW];rw[wq xs vs i (by simpa using h1) (by simpa using h2) (by simpa using h3)]
theorem F5{α:Type}(l:List α)(a:α):frO (l++[a])= .free:=by unfold frO;rw[if_neg Zm]
theorem qq{α:Type}(l:List α):∀n,frO l≠ .tok n:=fun n e=>by unfold frO at e;split at e<;>cases e
theorem xS(o1 o2:Own)(xs:List ByteArray)(vs:List Vl)(hl:vs.length≤1000000)(h:Hp):aK Tryz.prog 66 [.sl .leaf o1 (xs.map V.str),vls o2 vs] h (.tup [trs (frO (dW xs vs)) (dW xs vs), .bool (decide (xs.length=vs.length))]):=by
 refine aH (fun L=>⟨rU _ (qq _) _ L,trivial,trivial⟩) fun h' nx hh=>aB L.bDe fun hd=>?_;have hd:aS h' nx:=hd;simp only[Kb,Kj,Ke,Kf,Kh,Ki,Km,Ko,V.undef];refine au ?_
 refine aO (fun i:Nat=>aD 36 0 [(0, .sl .leaf o1 (xs.map V.str)),(1,vls o2 vs),(4, .sl (.agg 4) .nil []),(5, .bool false),(6,trs (frO (dW (xs.take i) (vs.take i))) (dW (xs.take i) (vs.take i))),(7, .int .i64 i)])
  (fun i hp nx1=>i≤xs.length∧i≤vs.length∧nx≤nx1∧aS hp nx1∧Hp.same nx h' hp)
  (fun i=>xs.length-i) 0 ⟨Kt _,Kt _,Kp _,hd,Hp.same.aAn⟩ (by simp only[WkL,aD,KE,KF,KC,dW,trs,frO,go_sem,reduceIte,Ke,Kf,Kz,Ku,reduceCtorEq,Kv,Kx]) ?_
 rintro i hp nx1 ⟨hi,hiv,hnx,hdm,hsm⟩;generalize hQ:aV _ _ _ _ _=Q0;simp only[aD,go_sem,reduceIte,Ke,Kf,Kz,Ku,reduceCtorEq,Kv,Kx];have hle:=hsm.le hd (Hp.le_refl _);have hw:IntKind.i64.wrap ((i:Int)+1)=((i+1:Nat):Int):=wrp;have hel:(dW (xs.take i) (vs.take i)).length≤1000000:=by
  have:=oO (xs.take i) (vs.take i);rw[KD] at this;omega
 have hen:=wq xs vs i hi hiv;by_cases hx:i<xs.length
 ·have c1:decide ((i:Int)<(xs.length:Int))=true:=dct;by_cases hv:i<vs.length
  ·have c2:decide ((i:Int)<(vs.length:Int))=true:=dct;have hg:=aJ V.str xs i hx;have hg2:=aJ Vl.v vs i hv;have htk:=yL xs vs i hx hv;generalize dW (xs.take i) (vs.take i)=E at*;have D1:=fun o x w h=>xQ o E hel x w h;have hvf:=Vl.aAA vs[i];refine aue (e11 c1 c2 hg hg2 hx hv hw hvf (@Ka ByteArray V) (@Ka Vl V) Kc) ?_;refine bM (D1 _ _ _ _) rfl (bD _) ?_;refine aue hw ?_;rw[←hQ];refine aF (i+1) or ⟨hx,hv,or,dmo hdm,kep hsm⟩ ?_;rw[htk,F5];exact(by simp only[WkL,aD,KE,KF,KC,go_sem,reduceIte,Ke,Kf,Kz,Ku,reduceCtorEq,Kv,Kx])
  have c2:decide ((i:Int)<(vs.length:Int))=false:=dcf;rw[hen (.inr or)];refine aue (e4 c1 c2 (@Ka ByteArray V) (@Ka Vl V)) ?_;rw[←hQ];have g:((xs.length:Int)==(vs.length:Int))=false:=bqf;refine aue (e4 g trs.eq_1 (@Ka ByteArray V) (@Ka Vl V)) ?_;refine aM h' hle ⟨?_,rfl⟩;rw[decide_eq_false or];rfl
 have c1:decide ((i:Int)<(xs.length:Int))=false:=dcf;rw[hen (.inl or)];refine aue (e3 c1 (@Ka ByteArray V) (@Ka Vl V)) ?_;rw[←hQ];by_cases hq:xs.length=vs.length
 ·have g:((xs.length:Int)==(vs.length:Int))=true:=bqt;refine aue (e4 g trs.eq_1 (@Ka ByteArray V) (@Ka Vl V)) ?_;refine aM h' hle ⟨?_,rfl⟩;rw[decide_eq_true hq];rfl
 have g:((xs.length:Int)==(vs.length:Int))=false:=bqf;refine aue (e4 g trs.eq_1 (@Ka ByteArray V) (@Ka Vl V)) ?_;refine aM h' hle ⟨?_,rfl⟩;rw[decide_eq_false hq];rfl
end Go.Proofs.YtgbiopfghdilnaaGreatDoor
namespace Go.Proofs.YtgbiopfghdilnaaGreatDoor
open Go.RowKit Go.Sort
attribute [local irreducible] Kk
theorem tu(vs:List Vl)(L:Nat→Prop):(V.tup [.sl (.agg 3) (frO vs) (vs.map Vl.v), .int .i64 0]).names L:=
 ⟨⟨fun n e=>absurd e (by unfold frO;split<;>simp),aT (fun x=>Vl.aAK L x) _⟩,trivial,trivial⟩
theorem zj(o1 o2:Own)(t:List Vl)(aAO:List Nat)(hl:aAO.length≤6)(hc:∀c∈aAO,c<t.length)(h:Hp):aK Tryz.prog 68 [vls o1 t, .sl .leaf o2 (aAO.map kV)] h (.tup [.sl (.agg 3) (frO (eM t aAO)) ((eM t aAO).map Vl.v), .int .i64 0]):=by
 refine bK (fun L=>tu _ L) fun h' nx hh=>aB L.bDc fun hd=>?_;have hd:aS h' nx:=hd;refine ZK ?_;refine au ?_
 refine aO (fun q:Nat×Own=>aD 42 0 [(0,vls o1 t),(1, .sl .leaf o2 (aAO.map kV)),(4, .sl (.agg 3) .nil []),(5, .int .i64 0),(6, .sl (.agg 3) q.2 ((eM t (aAO.take q.1)).map Vl.v)),(7, .int .i64 q.1)])
  (fun q hp nx1=>q.1≤aAO.length∧nx≤nx1∧aS hp nx1∧Hp.same nx h' hp∧Acc hp nx q.2 ((eM t (aAO.take q.1)).map Vl.v))
  (fun q=>aAO.length-q.1) (0, .nil) ⟨Kt _,Kp _,hd,Hp.same.aAn, .inl ⟨rfl,rfl⟩⟩ (by simp only[WkL,aD,jH,jI,jJ,eM,KA,go_sem,reduceIte,jA,jB,jC,jD,reduceCtorEq,jE,jF]) ?_
 rintro⟨i,oo⟩ hp nx1 ⟨hi,hnx,hdm,hsm,aAM⟩;generalize hQ:aV _ _ _ _ _=Q0;dsimp only at hi aAM;refine Zk ?_;have hle:=hsm.le hd (Hp.le_refl _);have hpl:(eM t (aAO.take i)).length≤1000000:=by unfold eM;rw[jK,KD];omega
 rcases Ks i aAO.length with hlt|hge
 ·have hcc:decide ((i:Int)<(aAO.length:Int))=true:=dct;have hg:=aJ kV aAO i hlt;have hw:IntKind.i64.wrap ((i:Int)+1)=((i+1:Nat):Int):=wrp;have hk:=hc aAO[i] (List.getElem_mem _);have hps:eM t (aAO.take (i+1))=eM t (aAO.take i)++[t[aAO[i]]]:=by
   unfold eM;rw[Kg hlt,Kq,KI,KA,List.getD_eq_getElem?_getD,List.getElem?_eq_getElem hk];rfl
  have hg2:=aJ Vl.v t aAO[i] hk;generalize t[aAO[i]]=w at hps hg2;generalize aAO[i]=k at hg hk hg2;have hg:(aAO.map kV).getD i (.tup [])= .int .i64 (k:Int):=hg;have z1:decide ((k:Int)<0)=false:=dcf;have z2:decide ((t.length:Int)≤(k:Int))=false:=dcf;have z3:decide ((k:Int)≥(t.length:Int))=false:=dcf;generalize eM t (aAO.take i)=A at*;have hwf:=Vl.aAA w;refine aue (e14 hcc hg hlt z1 z2 z3 hg2 hk hwf hpl (@jK Nat V) (@jK Vl V) jG hw) ?_;rw[←hQ];refine aF (i+1, .tok (nx1+1)) Zw ⟨hlt,or,dmo hdm,rC hsm aAM,?_⟩ ?_
  ·dsimp only;rw[hps,Kq];exact Acc.new _ Zm or
  dsimp only;rw[hps,Kq,KI,KA];exact(by simp only[WkL,aD,jH,jI,jJ,go_sem,reduceIte,jA,jB,jC,jD,reduceCtorEq,jE,jF])
 have hcc:decide ((i:Int)<(aAO.length:Int))=false:=dcf;rw[List.take_of_length_le or] at aAM hpl⊢;have hp6:(eM t aAO).length≤6:=by unfold eM;rw[jK];exact hl
 generalize eM t aAO=A at*;have z6:decide ((6:Int)<(A.length:Int))=false:=dcf;refine aue (e3 hcc (@jK Nat V) (@jK Vl V)) ?_;rw[←hQ];refine aue (e3 z6 (@jK Nat V) (@jK Vl V)) ?_;refine aM h' hle ⟨?_,leo hd⟩;refine Zn ?_;rcases qN aAM with⟨rfl,e⟩|⟨id,rfl,e⟩<;>rw[e]<;>rfl
theorem B4(a b:List Vl):(!qY a b&& !qY b a)=decide (mB a b=0):=by
 unfold qY;have h1:=c3T.aHB a b;have h2:=c3T.aHB b a;by_cases e:mB a b=0
 ·rw[decide_eq_true e,decide_eq_false or,decide_eq_false or];rfl
 rw[decide_eq_false e];by_cases k:mB a b<0
 ·rw[decide_eq_true k];rfl
 rw[decide_eq_false k,decide_eq_true or];rfl
theorem zg(o1 o2:Own)(a b:List Vl)(ha:a.length≤1000000000)(hb:b.length≤1000000000)(h:Hp):aK Tryz.prog 71 [vls o1 a,vls o2 b] h (.bool (decide (mB a b=0))):=by
 refine aH (fun L=>trivial) fun h' nx hh=>aB L.bDR fun hd=>?_;have C1:=fun h=>dh o1 o2 a b ha h;have C2:=fun h=>dh o2 o1 b a hb h;rw[←B4];refine ZK ?_;cases hx:qY a b with
 |true=>
  refine aue hx ?_;exact aC h' (leo hd) ⟨rfl,rfl⟩
 |false=>
  refine aue hx ?_;exact aC h' (leo hd) ⟨Zm,rfl⟩
end Go.Proofs.YtgbiopfghdilnaaGreatDoor
namespace Go.Proofs.YtgbiopfghdilnaaGreatDoor
open Go.RowKit Go.Sort
attribute [local irreducible] Kk
theorem zK(o:Own)(l:List Tr)(hl:l.length≤1000000)(e:Ex)(h:Hp):aK Tryz.prog 112 [e.v,trs o l] h (.bool (decide ((dJ l e).size≠0))):=by
 refine aH (fun L=>trivial) fun h' nx hh=>aB L.bCe fun hd=>?_;simp only[Kb,Kj,Ke,Kf,Kh,Ki,Km,Ko,V.undef];obtain⟨op,t,oo,ks⟩:=e;have hev:(Ex.mk op t oo ks).v= .agg [.int .i64 op, .str t.x, .int .i64 t.w.k, .int .i64 t.w.n, .str t.w.s, .sl (.agg 6) oo (ks.map Ex.v)]:=by rw[Ex.aAV];rfl
 rw[hev];have hu:dJ l (Ex.mk op t oo ks)=if op≠0∨(lkB t.x l).isSome=true then ⟨#[]⟩ else t.x:=rfl
 rw[hu];have C1:=fun h=>rY t.x o l hl h;have zf:oU.v.fits (.agg 3)=true:=rfl;by_cases h0:op=0
 ·have g:(op==0)=true:=bqt;by_cases hz:t.x.size=0
  ·have z0:decide ((0:Int)<(t.x.size:Int))=false:=dcf;have hr:decide ((if op≠0∨(lkB t.x l).isSome=true then (⟨#[]⟩:ByteArray) else t.x).size≠0)=false:=by
    split
    ·rfl
    simp[hz]
   rw[hr];cases k:lkB t.x l with
   |none=>
    rw[k] at C1;refine aue (e3 g z0 zf) ?_;exact aC h' (leo hd) ⟨rfl,rfl⟩
   |some w=>
    rw[k] at C1;have hwf:=Vl.aAA w;refine aue (e3 g z0 hwf) ?_;exact aC h' (leo hd) ⟨rfl,rfl⟩
  have z0:decide ((0:Int)<(t.x.size:Int))=true:=dct;cases k:lkB t.x l with
  |none=>
   rw[k] at C1;rw[if_neg (by simp[h0])];refine aue (e3 g z0 zf) ?_;exact aC h' (leo hd) ⟨by rw[decide_eq_true hz];rfl,rfl⟩
  |some w=>
   rw[k] at C1;have hwf:=Vl.aAA w;rw[if_pos (.inr rfl)];refine aue (e3 g z0 hwf) ?_;exact aC h' (leo hd) ⟨rfl,rfl⟩
 have g:(op==0)=false:=bqf;rw[if_pos (.inl h0)];cases k:lkB t.x l with
 |none=>
  rw[k] at C1;refine aue (e2 g zf) ?_;exact aC h' (leo hd) ⟨rfl,rfl⟩
 |some w=>
  rw[k] at C1;have hwf:=Vl.aAA w;refine aue (e2 g hwf) ?_;exact aC h' (leo hd) ⟨rfl,rfl⟩
end Go.Proofs.YtgbiopfghdilnaaGreatDoor
namespace Go.Proofs.YtgbiopfghdilnaaGreatDoor
open Go.RowKit Go.Sort
attribute [local irreducible] Kk
def nL(na nb:Int)(i:Nat):List V:=[.int .i64 (if 1≤i then na else 0), .int .i64 (if 2≤i then nb else 0)]
theorem oZ(o:Own)(l:List Tr)(hl:l.length≤1000000)(hsm:smB l):∀(k:Nat) (e:Ex),cR k e=true→e.sm→∀(h:Hp),aK Tryz.prog 113 [e.v,trs o l] h (.tup [(bJ l k e).1.v, .int .i64 (bJ l k e).2]):=by
 have base:∀(t:Tr) (ht:t.w.s.size≤9223372036854775807) (oo:Own) (ks:List Ex) (h:Hp),aK Tryz.prog 113 [(Ex.mk 0 t oo ks).v,trs o l] h (.tup [(bY t l).1.v, .int .i64 (bY t l).2]):=by
  intro t ht oo ks h;refine aH (fun L=>⟨Vl.aAK L _,trivial,trivial⟩) fun h' nx hh=>aB L.bA4 fun hd=>?_;refine ZK ?_;have hev:(Ex.mk 0 t oo ks).v= .agg [.int .i64 0, .str t.x, .int .i64 t.w.k, .int .i64 t.w.n, .str t.w.s, .sl (.agg 6) oo (ks.map Ex.v)]:=by rw[Ex.aAV];rfl
  rw[hev];have hwf:=Vl.aAA (bY t l).1;have hz:((0:Int)==0)=true:=rfl;have C:∀h,aK Tryz.prog 67 [.agg [.str t.x, .int .i64 t.w.k, .int .i64 t.w.n, .str t.w.s],trs o l] h (.tup [(bY t l).1.v, .int .i64 (bY t l).2]):=fun h=>oX t ht o l hl hsm h;refine aue hz ?_;refine aI (C _) rfl (aL _) ?_;refine aue hwf ?_;refine aP (by simp only[hwf,bC hwf,go_sem,reduceIte,jA,jB,jC,jD,reduceCtorEq,jE,jF]) h' (leo hd) ⟨?_,rfl⟩;simp only[hwf,bC hwf,go_sem,reduceIte,jA,jB,jC,jD,reduceCtorEq,jE,jF]
 intro k;induction k with
 |zero=>
  rintro⟨op,t,oo,ks⟩ hr hs h;obtain⟨rfl,_⟩:=of_decide_eq_true hr;exact base t hs.1.2 oo ks h
 |succ k ih=>
  rintro⟨op,t,oo,ks⟩ hr hs h;by_cases h0:op=0
  ·subst h0;unfold bJ;rw[if_pos rfl];exact base t hs.1.2 oo ks h
  unfold cR at hr;obtain⟨RES,aAS⟩:∃R,bJ l (k+1) (Ex.mk op t oo ks)=R:=⟨_,rfl⟩;rw[aAS];unfold bJ at aAS;rw[if_neg h0] at hr aAS;match ks,hr,aAS,hs with
  | [a,b],hr,aAS,hs=>
  obtain⟨p1,p3,_,ha,hb⟩:=of_decide_eq_true hr;obtain⟨_,hsa,hsb,_⟩:=hs;simp only at aAS;refine aH (fun L=>⟨Vl.aAK L _,trivial,trivial⟩) fun h' nx hh=>aB L.bA4 fun hd=>?_;have hd:aS h' nx:=hd;refine ZK ?_;have hev:(Ex.mk op t oo [a,b]).v= .agg [.int .i64 op, .str t.x, .int .i64 t.w.k, .int .i64 t.w.n, .str t.w.s, .sl (.agg 6) oo [a.v,b.v]]:=by rw[Ex.aAV];rfl
  rw[hev];obtain⟨a1,a2⟩:=bq (l:=l) ha;obtain⟨b1,b2⟩:=bq (l:=l) hb;obtain⟨na,hna⟩:∃n,(iN (bJ l k a)).1=n:=⟨_,rfl⟩;obtain⟨nb,hnb⟩:∃n,(iN (bJ l k b)).1=n:=⟨_,rfl⟩;rw[hna] at a1 a2;rw[hnb] at b1 b2;obtain⟨KL,hKL⟩:∃K,[a.v,b.v]=K:=⟨_,rfl⟩;have hKl:KL.length=2:=by rw[←hKL];rfl
  have kid:∀i,i<2→∃X:Ex,KL.getD i (.tup [])=X.v∧cR k X=true∧X.sm∧(i=0→X=a)∧(i=1→X=b):=fun i hi=>by
   rw[←hKL];obtain rfl|rfl:i=0∨i=1:=or
   ·exact⟨a,rfl,ha,hsa,fun _=>rfl,fun e=>absurd e ZM⟩
   exact⟨b,rfl,hb,hsb,fun e=>absurd e ZM,fun _=>rfl⟩
  rw[hKL];have hz:(op==0)=false:=bqf;generalize hR3:aR.ops L.aEv=O3;refine aue hz ?_;rw[←hR3];clear hR3;refine cP ?_;refine az (by simp[aN.ev,V.fits,V.aAE]) ?_;refine Zn ?_;refine au ?_
  refine aO (fun i:Nat=>aD 84 0 [(1,trs o l),(2, .ptr nx (.agg 6) 0 0),(4, .ptr (nx+1) (.agg 3) 0 0),(5, .int .i64 0),(6, .rs (nx+2) .leaf 0 2),(7, .int .i64 i)])
   (fun i hp nx1=>i≤2∧nx+3≤nx1∧aS hp nx1∧Hp.same nx h' hp∧hp nx=some (.arr (.agg 6) [.agg [.int .i64 op, .str t.x, .int .i64 t.w.k, .int .i64 t.w.n, .str t.w.s, .sl (.agg 6) oo KL]])∧hp (nx+1)=some (.arr (.agg 3) [.agg [.int .i64 0, .int .i64 0, .str ⟨#[]⟩]])∧hp (nx+2)=some (.arr .leaf (nL na nb i))∧(1≤i→(iN (bJ l k a)).2=0)∧(2≤i→(iN (bJ l k b)).2=0))
   (fun i=>2-i) 0 ⟨or,Zw,by exact dmo hd,by exact kep Hp.same.aAn,by simp only[go_sem,reduceIte,jA,jB,jC,jD,reduceCtorEq,jE,jF],by simp only[go_sem,reduceIte,jA,jB,jC,jD,reduceCtorEq,jE,jF],by simp only[nL,go_sem,reduceIte,jA,jB,jC,jD,reduceCtorEq,jE,jF],fun e=>or,fun e=>or⟩ (by simp only[WkL,aD,jH,jI,jJ,go_sem,reduceIte,jA,jB,jC,jD,reduceCtorEq,jE,jF]) ?_
  rintro i hp nx1 ⟨hi,hnx,hdm,aAj,hb0,hb1,hb2,ea,eb⟩;generalize hQ:aV _ _ _ _ _=Q0;refine Zk ?_;have hle:=aAj.le hd (Hp.le_refl _);have n0:nx<nx1:=or;have n1:nx+1<nx1:=or;have n2:nx+2<nx1:=or;rcases Ks i 2 with hlt|hge
  ·have hc:decide ((i:Int)<2)=true:=dct;have hw:IntKind.i64.wrap ((i:Int)+1)=((i+1:Nat):Int):=wrp;obtain⟨X,hX,hrX,hsX,xa,xb⟩:=kid i hlt;have hXf:=Ex.aAA X;have C1:=fun h=>ih X hrX hsX h;have aDG:(iN (bJ l k X)).2≠0→RES=(eX,(iN (bJ l k X)).2):=fun hne=>by
    obtain rfl|rfl:i=0∨i=1:=or
    ·rw[xa rfl] at hne⊢;rw[if_pos hne] at aAS;exact aAS.symm
    rw[xb rfl] at hne⊢;rw[if_neg (by simp[ea (Kp _)]),if_pos hne] at aAS;exact aAS.symm
   have aAR:(iN (bJ l k X)).2=0→(nL na nb i).set i (.int .i64 (iN (bJ l k X)).1)=nL na nb (i+1):=fun hz=>by
    obtain rfl|rfl:i=0∨i=1:=or
    ·rw[xa rfl,hna];rfl
    rw[xb rfl,hnb];rfl
   have ea2:(iN (bJ l k X)).2=0→1≤i+1→(iN (bJ l k a)).2=0:=fun hz _=>by
    obtain rfl|rfl:i=0∨i=1:=or
    ·rw[←xa rfl];exact hz
    exact ea (Kp _)
   have eb2:(iN (bJ l k X)).2=0→2≤i+1→(iN (bJ l k b)).2=0:=fun hz h2=>by
    obtain rfl:i=1:=or;rw[←xb rfl];exact hz
   generalize bJ l k X=P at*;have hPf:=Vl.aAA P.1;obtain⟨T,hT,hk0,hk1⟩:∃T,P.1.v= .agg T∧T.getD 0 (.tup [])= .int .i64 P.1.k∧T.getD 1 (.tup [])= .int .i64 P.1.n:=⟨_,rfl,rfl,rfl⟩;rw[hT] at C1 hPf;have hml:(nL na nb i).length=2:=rfl;have hsp:bU .leaf 0 ((nL na nb i).getD i (.tup [])) (.int .i64 P.1.n)= .int .i64 P.1.n:=by
    obtain rfl|rfl:i=0∨i=1:=or
    ·rfl
    rfl
   generalize nL na nb i=NI at*;generalize X.v=XV at*;clear aAS ih kid base;unfold iN at*;by_cases e1:P.2=0
   ·have z1:(P.2 != 0)=false:=bnf;rw[if_neg (by simp[e1])] at aDG aAR ea2 eb2;by_cases e2':P.1.k=1
    ·have z2:(P.1.k != 1)=false:=bnf;rw[if_neg (by simp[e2'])] at aAR ea2 eb2;have e1':(P.1.n,(0:Int)).2=0:=rfl;have aAR:=aAR e1';refine aue (e14 hc hb0 hb1 hb2 n0 n1 n2 hX hXf hlt hKl hPf z1 (e8 z2 hk0 hk1 hml hsp hw jG aAR)) ?_;rw[←hQ];exact aF (i+1) or ⟨hlt,or,dmo hdm,by exact kep aAj,by simp only[hb0,n0,go_sem,reduceIte,jA,jB,jC,jD,reduceCtorEq,jE,jF],by simp only[hb1,n1,go_sem,reduceIte,jA,jB,jC,jD,reduceCtorEq,jE,jF],by simp only[go_sem,reduceIte,jA,jB,jC,jD,reduceCtorEq,jE,jF],ea2 e1',eb2 e1'⟩ (by simp only[WkL,aD,jH,jI,jJ,go_sem,reduceIte,jA,jB,jC,jD,reduceCtorEq,jE,jF])
    have z2:(P.1.k != 1)=true:=bnt;rw[if_pos e2'] at aDG;refine aue (e14 hc hb0 hb1 hb2 n0 n1 n2 hX hXf hlt hKl hPf z1 (e4 z2 hk0 hk1 jG)) ?_;rw[←hQ];refine au ?_;rw[aDG Zm];refine aP (by simp only[go_sem,reduceIte,jA,jB,jC,jD,reduceCtorEq,jE,jF]) h' (lef hd hle) ⟨?_,rfl⟩;refine Zn ?_;rfl
   have z1:(P.2 != 0)=true:=bnt;rw[if_pos e1] at aDG;refine aue (e14 hc hb0 hb1 hb2 n0 n1 n2 hX hXf hlt hKl hPf z1 jG) ?_;rw[←hQ];refine au ?_;rw[aDG e1];refine aP (by simp only[go_sem,reduceIte,jA,jB,jC,jD,reduceCtorEq,jE,jF]) h' (lef hd hle) ⟨?_,rfl⟩;refine Zn ?_;rfl
  obtain rfl:i=2:=or;have hc:decide (((2:Nat):Int)<2)=false:=dcf;have hb2:hp (nx+2)=some (.arr .leaf [.int .i64 na, .int .i64 nb]):=hb2;have w3:IntKind.i64.wrap (na*nb)=na*nb:=Ec a1 a2 b1 b2;have w1:IntKind.i64.wrap (na+nb)=na+nb:=wrp;have w2:IntKind.i64.wrap (na-nb)=na-nb:=wrp;rw[if_neg (by simp[ea or]),if_neg (by simp[eb (Kp _)]),hna,hnb] at aAS;clear ih kid base ea eb hna hnb hKL;unfold opB at aAS;refine aue (e3 hc trivial trivial) ?_;rw[←hQ];by_cases o1:op=1
  ·have g1:(op==1)=true:=bqt;have g2:(op==2)=false:=bqf;rw[if_pos o1] at aAS;obtain⟨M,hM⟩:∃M,na+nb=M:=⟨_,rfl⟩;rw[hM] at w1 aAS;by_cases q1:2147483647<M
   ·have z1:decide (2147483647<M)=true:=dct;have hR:RES=(eX,10):=by rw[←aAS];unfold ofV iB;rw[decide_eq_false or];rfl
    rw[hR];refine aue (e12 hb0 hb1 hb2 n0 n1 n2 hM w1 w2 w3 g1 (e2 g2 z1)) ?_;refine aP (by simp only[go_sem,reduceIte,jA,jB,jC,jD,reduceCtorEq,jE,jF]) h' (lef hd hle) ⟨?_,rfl⟩;refine Zn ?_;rfl
   have z1:decide (2147483647<M)=false:=dcf;by_cases q2:M< -2147483647
   ·have z2:decide (M< -2147483647)=true:=dct;have hR:RES=(eX,10):=by rw[←aAS];unfold ofV iB;rw[decide_eq_false or];rfl
    rw[hR];refine aue (e12 hb0 hb1 hb2 n0 n1 n2 hM w1 w2 w3 g1 (e3 g2 z1 z2)) ?_;refine aP (by simp only[go_sem,reduceIte,jA,jB,jC,jD,reduceCtorEq,jE,jF]) h' (lef hd hle) ⟨?_,rfl⟩;refine Zn ?_;rfl
   have z2:decide (M< -2147483647)=false:=dcf;have hR:RES=(⟨1,M,⟨#[]⟩⟩,0):=by rw[←aAS];unfold ofV iB;rw[decide_eq_true or];rfl
   rw[hR];refine aue (e12 hb0 hb1 hb2 n0 n1 n2 hM w1 w2 w3 g1 (e3 g2 z1 z2)) ?_;refine aP (by simp only[go_sem,reduceIte,jA,jB,jC,jD,reduceCtorEq,jE,jF]) h' (lef hd hle) ⟨?_,rfl⟩;refine Zn ?_;rfl
  have g1:(op==1)=false:=bqf;rw[if_neg o1] at aAS;by_cases o2:op=2
  ·have g2:(op==2)=true:=bqt;rw[if_pos o2] at aAS;obtain⟨M,hM⟩:∃M,na-nb=M:=⟨_,rfl⟩;rw[hM] at w2 aAS;by_cases q1:2147483647<M
   ·have z1:decide (2147483647<M)=true:=dct;have hR:RES=(eX,10):=by rw[←aAS];unfold ofV iB;rw[decide_eq_false or];rfl
    rw[hR];refine aue (e12 hb0 hb1 hb2 n0 n1 n2 hM w1 w2 w3 g1 (e2 g2 z1)) ?_;refine aP (by simp only[go_sem,reduceIte,jA,jB,jC,jD,reduceCtorEq,jE,jF]) h' (lef hd hle) ⟨?_,rfl⟩;refine Zn ?_;rfl
   have z1:decide (2147483647<M)=false:=dcf;by_cases q2:M< -2147483647
   ·have z2:decide (M< -2147483647)=true:=dct;have hR:RES=(eX,10):=by rw[←aAS];unfold ofV iB;rw[decide_eq_false or];rfl
    rw[hR];refine aue (e12 hb0 hb1 hb2 n0 n1 n2 hM w1 w2 w3 g1 (e3 g2 z1 z2)) ?_;refine aP (by simp only[go_sem,reduceIte,jA,jB,jC,jD,reduceCtorEq,jE,jF]) h' (lef hd hle) ⟨?_,rfl⟩;refine Zn ?_;rfl
   have z2:decide (M< -2147483647)=false:=dcf;have hR:RES=(⟨1,M,⟨#[]⟩⟩,0):=by rw[←aAS];unfold ofV iB;rw[decide_eq_true or];rfl
   rw[hR];refine aue (e12 hb0 hb1 hb2 n0 n1 n2 hM w1 w2 w3 g1 (e3 g2 z1 z2)) ?_;refine aP (by simp only[go_sem,reduceIte,jA,jB,jC,jD,reduceCtorEq,jE,jF]) h' (lef hd hle) ⟨?_,rfl⟩;refine Zn ?_;rfl
  have g2:(op==2)=false:=bqf;rw[if_neg o2] at aAS;obtain⟨M,hM⟩:∃M,na*nb=M:=⟨_,rfl⟩;rw[hM] at w3 aAS;by_cases q1:2147483647<M
  ·have z1:decide (2147483647<M)=true:=dct;have hR:RES=(eX,10):=by rw[←aAS];unfold ofV iB;rw[decide_eq_false or];rfl
   rw[hR];refine aue (e12 hb0 hb1 hb2 n0 n1 n2 hM w1 w2 w3 g1 (e2 g2 z1)) ?_;refine aP (by simp only[go_sem,reduceIte,jA,jB,jC,jD,reduceCtorEq,jE,jF]) h' (lef hd hle) ⟨?_,rfl⟩;refine Zn ?_;rfl
  have z1:decide (2147483647<M)=false:=dcf;by_cases q2:M< -2147483647
  ·have z2:decide (M< -2147483647)=true:=dct;have hR:RES=(eX,10):=by rw[←aAS];unfold ofV iB;rw[decide_eq_false or];rfl
   rw[hR];refine aue (e12 hb0 hb1 hb2 n0 n1 n2 hM w1 w2 w3 g1 (e3 g2 z1 z2)) ?_;refine aP (by simp only[go_sem,reduceIte,jA,jB,jC,jD,reduceCtorEq,jE,jF]) h' (lef hd hle) ⟨?_,rfl⟩;refine Zn ?_;rfl
  have z2:decide (M< -2147483647)=false:=dcf;have hR:RES=(⟨1,M,⟨#[]⟩⟩,0):=by rw[←aAS];unfold ofV iB;rw[decide_eq_true or];rfl
  rw[hR];refine aue (e12 hb0 hb1 hb2 n0 n1 n2 hM w1 w2 w3 g1 (e3 g2 z1 z2)) ?_;refine aP (by simp only[go_sem,reduceIte,jA,jB,jC,jD,reduceCtorEq,jE,jF]) h' (lef hd hle) ⟨?_,rfl⟩;refine Zn ?_;rfl
end Go.Proofs.YtgbiopfghdilnaaGreatDoor
namespace Go.Proofs.YtgbiopfghdilnaaGreatDoor
open Go.RowKit Go.Sort
attribute [local irreducible] Kk
theorem t7(op:Int)(a b:Vl)(h1:1≤op)(h6:op≤6)(ha:dL a=true)(hb:dL b=true)(sa:a.s.size≤9223372036854775807)(sb:b.s.size≤9223372036854775807)(h:Hp):aK Tryz.prog 158 [.int .i64 op,a.v,b.v] h (.tup [.bool (tH op a b).1, .int .i64 (tH op a b).2]):=by
 refine aH (fun L=>⟨trivial,trivial,trivial⟩) fun h' nx hh=>aB L.aZm fun hd=>?_;simp only[Kb,Kj,Ke,Kf,Kh,Ki,Km,Ko,V.undef];have C1:=fun h=>iY a sa h;have C2:=fun h=>iY b sb h;rw[ha] at C1;rw[hb] at C2;have hv:=qA a b;have hfa:=Vl.aAA a;have hfb:=Vl.aAA b;obtain⟨A,hA,ak,an⟩:∃T,a.v= .agg T∧T.getD 0 (.tup [])= .int .i64 a.k∧T.getD 1 (.tup [])= .int .i64 a.n:=⟨_,rfl,rfl,rfl⟩;obtain⟨B,hB,bk,bn⟩:∃T,b.v= .agg T∧T.getD 0 (.tup [])= .int .i64 b.k∧T.getD 1 (.tup [])= .int .i64 b.n:=⟨_,rfl,rfl,rfl⟩;rw[hA] at C1 hv hfa⊢;rw[hB] at C2 hv hfb⊢;obtain rfl|rfl|rfl|rfl|rfl|rfl:op=1∨op=2∨op=3∨op=4∨op=5∨op=6:=or
 ·have z1:decide ((1:Int)<1)=false:=rfl;have z6:decide ((6:Int)<1)=false:=rfl;have hw:IntKind.i64.wrap ((1:Int)-1)=((0:Nat):Int):=wrp;have z3:decide ((2:Int)<1)=false:=rfl;refine aue (e12 z1 z6 z3 hfa hfb ak an bk bn hv hw Kc) ?_;exact aM h' (leo hd) ⟨rfl,rfl⟩
 ·have z1:decide ((2:Int)<1)=false:=rfl;have z6:decide ((6:Int)<2)=false:=rfl;have hw:IntKind.i64.wrap ((2:Int)-1)=((1:Nat):Int):=wrp;have z3:decide ((2:Int)<2)=false:=rfl;refine aue (e12 z1 z6 z3 hfa hfb ak an bk bn hv hw Kc) ?_;exact aM h' (leo hd) ⟨rfl,rfl⟩
 ·have z1:decide ((3:Int)<1)=false:=rfl;have z6:decide ((6:Int)<3)=false:=rfl;have hw:IntKind.i64.wrap ((3:Int)-1)=((2:Nat):Int):=wrp;have z3:decide ((2:Int)<3)=true:=rfl;unfold tH;by_cases ka:a.k=1
  ·have ga:(a.k != 1)=false:=bnf;by_cases kb:b.k=1
   ·have gb:(b.k != 1)=false:=bnf;rw[if_neg (by simp[ka,kb])];refine aue (e14 z1 z6 z3 hfa hfb ak an bk bn hv hw Kc ga gb) ?_;exact aM h' (leo hd) ⟨rfl,rfl⟩
   have gb:(b.k != 1)=true:=bnt;rw[if_pos ⟨or, .inr kb⟩];refine aue (e11 z1 z6 z3 hfa hfb ak an bk bn ga gb) ?_;exact aM h' (leo hd) ⟨rfl,rfl⟩
  have ga:(a.k != 1)=true:=bnt;rw[if_pos ⟨or, .inl ka⟩];refine aue (e10 z1 z6 z3 hfa hfb ak an bk bn ga) ?_;exact aM h' (leo hd) ⟨rfl,rfl⟩
 ·have z1:decide ((4:Int)<1)=false:=rfl;have z6:decide ((6:Int)<4)=false:=rfl;have hw:IntKind.i64.wrap ((4:Int)-1)=((3:Nat):Int):=wrp;have z3:decide ((2:Int)<4)=true:=rfl;unfold tH;by_cases ka:a.k=1
  ·have ga:(a.k != 1)=false:=bnf;by_cases kb:b.k=1
   ·have gb:(b.k != 1)=false:=bnf;rw[if_neg (by simp[ka,kb])];refine aue (e14 z1 z6 z3 hfa hfb ak an bk bn hv hw Kc ga gb) ?_;exact aM h' (leo hd) ⟨rfl,rfl⟩
   have gb:(b.k != 1)=true:=bnt;rw[if_pos ⟨or, .inr kb⟩];refine aue (e11 z1 z6 z3 hfa hfb ak an bk bn ga gb) ?_;exact aM h' (leo hd) ⟨rfl,rfl⟩
  have ga:(a.k != 1)=true:=bnt;rw[if_pos ⟨or, .inl ka⟩];refine aue (e10 z1 z6 z3 hfa hfb ak an bk bn ga) ?_;exact aM h' (leo hd) ⟨rfl,rfl⟩
 ·have z1:decide ((5:Int)<1)=false:=rfl;have z6:decide ((6:Int)<5)=false:=rfl;have hw:IntKind.i64.wrap ((5:Int)-1)=((4:Nat):Int):=wrp;have z3:decide ((2:Int)<5)=true:=rfl;unfold tH;by_cases ka:a.k=1
  ·have ga:(a.k != 1)=false:=bnf;by_cases kb:b.k=1
   ·have gb:(b.k != 1)=false:=bnf;rw[if_neg (by simp[ka,kb])];refine aue (e14 z1 z6 z3 hfa hfb ak an bk bn hv hw Kc ga gb) ?_;exact aM h' (leo hd) ⟨rfl,rfl⟩
   have gb:(b.k != 1)=true:=bnt;rw[if_pos ⟨or, .inr kb⟩];refine aue (e11 z1 z6 z3 hfa hfb ak an bk bn ga gb) ?_;exact aM h' (leo hd) ⟨rfl,rfl⟩
  have ga:(a.k != 1)=true:=bnt;rw[if_pos ⟨or, .inl ka⟩];refine aue (e10 z1 z6 z3 hfa hfb ak an bk bn ga) ?_;exact aM h' (leo hd) ⟨rfl,rfl⟩
 have z1:decide ((6:Int)<1)=false:=rfl;have z6:decide ((6:Int)<6)=false:=rfl;have hw:IntKind.i64.wrap ((6:Int)-1)=((5:Nat):Int):=wrp;have z3:decide ((2:Int)<6)=true:=rfl;unfold tH;by_cases ka:a.k=1
 ·have ga:(a.k != 1)=false:=bnf;by_cases kb:b.k=1
  ·have gb:(b.k != 1)=false:=bnf;rw[if_neg (by simp[ka,kb])];refine aue (e14 z1 z6 z3 hfa hfb ak an bk bn hv hw Kc ga gb) ?_;exact aM h' (leo hd) ⟨rfl,rfl⟩
  have gb:(b.k != 1)=true:=bnt;rw[if_pos ⟨or, .inr kb⟩];refine aue (e11 z1 z6 z3 hfa hfb ak an bk bn ga gb) ?_;exact aM h' (leo hd) ⟨rfl,rfl⟩
 have ga:(a.k != 1)=true:=bnt;rw[if_pos ⟨or, .inl ka⟩];refine aue (e10 z1 z6 z3 hfa hfb ak an bk bn ga) ?_;exact aM h' (leo hd) ⟨rfl,rfl⟩
theorem sx{t:Tr}{l:List Tr}(ht:t.w.s.size≤9223372036854775807)(hl:smB l):(bY t l).1.s.size≤9223372036854775807:=by
 unfold bY;split
 ·split
  ·exact ht
  show(0:Nat)≤_;omega
 cases hk:lkB t.x l with
 |none=>
  show(0:Nat)≤_;omega
 |some w=>
  simp only;split
  ·exact Ey hl hk
  show(0:Nat)≤_;omega
theorem wn{l:List Tr}(hl:smB l):∀(n:Nat) (e:Ex),e.sm→(bJ l n e).1.s.size≤9223372036854775807
 |0, .mk op t o ks,h=>sx h.1.2 hl
 |n+1, .mk op t o ks,h=>by
  unfold bJ;have z:∀m,(ofV m).1.s.size≤9223372036854775807:=fun m=>by
   unfold ofV;split<;>(show(0:Nat)≤_)<;>omega
  have z0:eX.s.size≤9223372036854775807:=by show(0:Nat)≤_;omega
  split
  ·exact sx h.1.2 hl
  split
  ·split
   ·exact z0
   split
   ·exact z0
   exact z _
  exact z0
theorem ze(o:Own)(l:List Tr)(hl:l.length≤1000000)(hsm:smB l)(x:Li)(hr:bG x=true)(h3:x.k=3)(hx:x.sm)(h:Hp):aK Tryz.prog 114 [x.v,trs o l] h (.tup [.bool (pQ l x).1, .int .i64 (pQ l x).2]):=by
 refine aH (fun L=>⟨trivial,trivial,trivial⟩) fun h' nx hh=>aB L.bCd fun hd=>?_;simp only[Kb,Kj,Ke,Kf,Kh,Ki,Km,Ko,V.undef];obtain⟨p1,p6,px,py⟩:=oY hr h3;have CX:=fun h=>oZ o l hl hsm 20 x.x px hx.2.1 h;have CY:=fun h=>oZ o l hl hsm 20 x.y py hx.2.2 h;have sX:=wn hsm 20 x.x hx.2.1;have sY:=wn hsm 20 x.y hx.2.2;have hrx:=fun e=>rK (l:=l) px e;have hry:=fun e=>rK (l:=l) py e;unfold pQ;generalize bJ l 20 x.x=P at*;generalize bJ l 20 x.y=Q at*;have hfP:=Vl.aAA P.1;have hfQ:=Vl.aAA Q.1;have hf:=Li.aAA x;have hXf:=Ex.aAA x.x;have hYf:=Ex.aAA x.y;obtain⟨T,hT,htx,hty,hto⟩:∃T,x.v= .agg T∧(.agg ((T.drop 4).take 6))=x.x.v∧(.agg ((T.drop 10).take 6))=x.y.v∧(V.agg T).cell 3= .int .i64 x.op:=⟨_,rfl,by rw[Ex.aAV];rfl,by rw[Ex.aAV];rfl,rfl⟩;have hlx:aX (.agg 6) 4 (.agg T)=x.x.v:=htx;have hly:aX (.agg 6) 10 (.agg T)=x.y.v:=hty;rw[hT] at hf⊢;generalize x.x.v=X at*;generalize x.y.v=Y at*;have hto:T.getD 3 (.tup [])= .int .i64 x.op:=hto;refine aue (e4 hf hlx hly hXf) ?_;refine aI (CX _) rfl (aL _) ?_;by_cases e1:P.2=0
 ·have vx:(P.2 != 0)=false:=bnf;rw[if_neg (by simp[e1])];refine aue (e6 hf hlx hly hYf vx hfP) ?_;refine aI (CY _) rfl (aL _) ?_;by_cases e2':Q.2=0
  ·have vy:(Q.2 != 0)=false:=bnf;rw[if_neg (by simp[e2'])];have C2:=fun h=>t7 x.op P.1 Q.1 p1 p6 (hrx e1) (hry e2') sX sY h;generalize P.1.v=PV at*;generalize Q.1.v=QV at*;refine aue (e6 hf hto vy hfP hfQ vx) ?_;exact aM h' (leo hd) ⟨rfl,rfl⟩
  have vy:(Q.2 != 0)=true:=bnt;rw[if_pos e2'];refine aue (e5 hf hlx hly vy hfQ) ?_;exact aM h' (leo hd) ⟨rfl,rfl⟩
 have vx:(P.2 != 0)=true:=bnt;rw[if_pos e1];refine aue (e5 hf hlx hly vx hfP) ?_;exact aM h' (leo hd) ⟨rfl,rfl⟩
end Go.Proofs.YtgbiopfghdilnaaGreatDoor
