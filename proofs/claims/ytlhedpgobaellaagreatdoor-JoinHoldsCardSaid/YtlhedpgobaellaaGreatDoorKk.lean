/-
Texts of this proof,one behind the other. No conditions.
-/
import Derived.Laws.IdiomCopy
import Derived.Test.YtlhedpgobaellaaGreatDoorKh
open Go.Proofs.YtlhedpgobaellaaGreatDoor.Hp renaming set→Ka,aAM→Kd,le_refl→Ke,same→Kg,le_trans→Ki
open Go.Proofs.YtlhedpgobaellaaGreatDoor.V renaming undef→Kb,loose→Kh
open List renaming getD_eq_getElem?_getD→Kc,getElem?_eq_getElem→Kf,mem_append→Kj,getElem_mem→Km,getElem?_append_left→Ko,mem_of_find?_eq_some→Kp,range→Kq,mem_cons→Ks,length_append→Ku,getElem?_append_right→Kv,take_succ_eq_append_getElem→Kx,take_of_length_le→Ky,mem_map→KA,find?_some→KC,findIdx?_eq_some_iff_getElem→KE,mem_of_mem_take→KH,take_append_of_le_length→KI,nodup_cons→KJ,getElem?_drop→KL,mem_singleton→KM,length_eraseIdx_of_lt→KN,append_assoc→KO,getElem?_map→KP,map_cons→KS,mem_of_mem_eraseIdx→KT,map_append→KY,mem_of_mem_drop→Qa,mem_cons_of_mem→Qb,getElem_of_mem→Qd,getElem?_range→Qe,getElem?_take→Qf,mem_cons_self→Qg,find?_eq_none→Qh,length_range→Qm,length_take→Qo,filter_cons→Qp,nil_append→Qu,append_nil→Qw,map_nil→Qz,length→QB
open Nat renaming mul_le_mul_right→Kk,le_refl→Kz,add_mul→KF,zero_le→KG,lt_or_ge→KK,reduceAdd→KQ,reduceSub→KR,reduceLeDiff→KU,reduceEqDiff→KV,lt_of_lt_of_le→Qi,zero_add→Qj,reduceLT→Qk,lt_succ_self→Qq,zero_mul→Qy,mul_one→QA,le_succ→QC
open Array renaming getD_eq_getD_getElem?→Kt
open Go.IntKind renaming wrap→Kw
open Bool renaming and_eq_true→KB,or_eq_false_iff→Qc,not_eq_true'→Ql,or_eq_true→Qv,true_and→Qx
open Go.Builtin renaming append_→KD,copy_→Qr,lenOf→Qt
open Go renaming undef→KW
open Int renaming reduceToNat→KX
open Prod renaming fst→KZ
open Nat renaming reduceAdd→jA,reduceSub→jB,reduceLT→jC,reduceLeDiff→jD,reduceEqDiff→jE
open Int renaming reduceToNat→jF,toNat_natCast→jG,natCast_add→jH,natCast_one→jI,natCast_zero→jJ
open List renaming length_map→jK,length_cons→jL,length_nil→jM,nil_append→jQ
set_option linter.all false
set_option maxHeartbeats 8000000
namespace Go.Proofs.YtlhedpgobaellaaGreatDoor
open Go.RowKit
variable{P:Program}{K:Ker}{h:Hp}{k:Sh}
def mZ(es:List V)(o:Nat)(ys:List V):List V:=es.take o++ys++es.drop (o+ys.length)
theorem dr{es ys:List V}{o:Nat}(hle:o+ys.length≤es.length):(mZ es o ys).length=es.length:=by simp[mZ];omega
theorem Df{es ys:List V}{o:Nat}(hle:o+ys.length≤es.length)(q:Nat):(mZ es o ys).getD q Kb=if q<o then es.getD q Kb else if q<o+ys.length then ys.getD (q-o) Kb else es.getD q Kb:=by
 simp only[mZ,Kc,KO];have htk:(es.take o).length=o:=by simp;omega
 by_cases e1:q<o
 ·rw[if_pos e1,Ko (by rw[htk];exact e1),Qf,if_pos e1]
 rw[if_neg e1,Kv (by rw[htk];omega),htk];by_cases e2:q<o+ys.length
 ·rw[if_pos e2,Ko or]
 rw[if_neg e2,Kv or,KL];have:o+ys.length+(q-o-ys.length)=q:=or;rw[this]
def mQ(K:Ker)(k:Sh)(ys:List V)(cs:List Value):Prop:=cs.length=ys.length*k.size∧(∀y∈ys,y.fits k=true)∧∀i,i<ys.length→∀j,j<k.size→VR K ((ys.getD i Kb).cell j) (cs.getD (i*k.size+j) KW)
theorem mQ.one{ys:List V}{cs:List Value}(c:mQ K k ys cs):∀u∈cs,u.oneCell'=true:=by
 obtain⟨hcl,hfy,hv⟩:=c;intro u hu;obtain⟨q,hq,rfl⟩:=Qd hu;rw[hcl] at hq;obtain⟨d1,d2,d3⟩:=qU hq;have h1:=hv _ d1 _ d2;rw[d3,Kc (l:=cs),Kf (by rw[hcl];exact hq)] at h1;have hm:ys.getD (q / k.size) Kb∈ys:=by rw[Kc,Kf d1];exact Km _
 have h2:=hfy _ hm;refine VR.aA3 h1 ?_;cases k with
 |leaf=>
  have hz:q % Sh.leaf.size=0:=by simp[Sh.size,Nat.mod_one]
  rw[hz];rw[V.fits] at h2;generalize ys.getD (q / Sh.leaf.size) Kb=y at h2;cases y<;>first|rfl|(simp[V.aAE] at h2)
 |agg n=>
  generalize ys.getD (q / (Sh.agg n).size) Kb=y at h2;cases y with
  |agg cs2=>
   simp only[V.fits,KB,decide_eq_true_eq,List.all_eq_true] at h2;show(cs2.getD _ Kb).aAE=true;have hlt:q % (Sh.agg n).size<cs2.length:=by rw[h2.1];exact d2
   rw[Kc,Kf hlt];exact h2.2 _ (Km _)
  |_=>simp[V.fits] at h2
theorem mQ.mono{K K':Ker}(hle:K.le K'){ys:List V}{cs:List Value}(c:mQ K k ys cs):mQ K' k ys cs:=⟨c.1,c.2.1,fun i hi j hj=>(c.2.2 i hi j hj).mono hle⟩
theorem mN(hr:Rel K h){n o:Nat}{es ys:List V}(hn:h n=some (.arr k es))(hle:o+ys.length≤es.length){cs:List Value}(c:mQ K k ys cs):
 ∃K',(storeCells ⟨K.mu n,o*k.size,none⟩ cs 0).run P K.w= .ok () K'.w∧K.le K'∧K'.live=K.live∧K'.mu=K.mu∧(∀b,K'.w.shape? b=K.w.shape? b)∧Rel K' (h.set n (.arr k (mZ es o ys))):=by
 have hone:=c.one;obtain⟨hcl,hfy,hv⟩:=c;have hbr:=hr.blk n _ hn;cases hbr with
 |arr _ _ c T hh hcs himm hfit hvs=>
  have aCJ:o*k.size+ys.length*k.size≤es.length*k.size:=by rw[←KF];exact Kk _ hle
  have hst:=run_storeCells_at P (K.mu n) (o*k.size) T cs 0 c K.w hh (by rw[hcl];omega) hone;simp only[Nat.add_zero,hcl] at hst;generalize hc':(c.toList.take (o*k.size)++cs++c.toList.drop (o*k.size+ys.length*k.size)).toArray=c' at hst;have hcsz:c'.size=c.size:=by rw[←hc'];simp only[List.size_toArray,Ku,Qo,List.length_drop,Array.length_toList,hcl];omega
  have hle1:=K.le_row (K.mu n) c' c T hh hcsz (hr.base n _ hn) (fun o ho=>by rw[himm] at ho;omega);have hlen:=dr hle;refine⟨K.row (K.mu n) c',hst,hle1,rfl,rfl,fun b=>nU K.w _ c' c T (0,0) hh hcsz b,?_⟩;refine hr.row hn c' c T hh hcsz (fun o ho=>by rw[himm] at ho;omega) (.arr k _ c' T ?_ (by rw[hlen,hcsz];exact hcs) himm ?_ ?_)
  ·show(K.w.setRow (K.mu n) c').heap[K.mu n]?=_;exact setRow_heap K.w (K.mu n) c c' T (0,0) hh
  ·intro x hx;rcases Kj.1 hx with hx|hx
   ·rcases Kj.1 hx with hx|hx
    ·exact hfit x (KH hx)
    exact hfy x hx
   exact hfit x (Qa hx)
  intro q hq j hj;rw[hlen] at hq;have aDv:=cC hj hq;have hget:c'[q*k.size+j]?=if q<o then c[q*k.size+j]? else if q<o+ys.length then cs[(q-o)*k.size+j]? else c[q*k.size+j]?:=by
   rw[←hc'];simp only[List.getElem?_toArray,KO];by_cases e1:q<o
   ·have h1:=cC hj e1;rw[if_pos e1,Ko (by simp;omega),Qf,if_pos h1];simp
   rw[if_neg e1];have h1:o*k.size≤q*k.size:=Kk _ or;have hsub:q*k.size-o*k.size=(q-o)*k.size:=(Nat.sub_mul _ _ _).symm;have htk:(c.toList.take (o*k.size)).length=o*k.size:=by simp;omega
   rw[Kv (by rw[htk];omega),htk];by_cases e2:q<o+ys.length
   ·have h2:=cC (k:=k.size) (i:=q-o) (n:=ys.length) hj or;rw[if_pos e2,Ko (by rw[hcl];omega)];have:q*k.size+j-o*k.size=(q-o)*k.size+j:=or;rw[this]
   have h2:(o+ys.length)*k.size≤q*k.size:=Kk _ or;rw[KF] at h2;rw[if_neg e2,Kv (by rw[hcl];omega),hcl,KL];have:o*k.size+ys.length*k.size+(q*k.size+j-o*k.size-ys.length*k.size)=q*k.size+j:=or;rw[this];simp
  rw[Df hle,Kt,hget];by_cases e1:q<o
  ·rw[if_pos e1,if_pos e1,←Kt];exact(hvs q hq j hj).mono hle1
  rw[if_neg e1,if_neg e1];by_cases e2:q<o+ys.length
  ·rw[if_pos e2,if_pos e2,←Kc];exact(hv _ or j hj).mono hle1
  rw[if_neg e2,if_neg e2,←Kt];exact(hvs q hq j hj).mono hle1
theorem lB(hr:Rel K h){n o m:Nat}{es:List V}(hn:h n=some (.arr k es))(hle:o+m≤es.length):
 ∃cs,mQ K k ((es.drop o).take m) cs∧cs.length=m*k.size∧∀j u,cs[j]?=some u→K.w.cell? ⟨K.mu n,o*k.size+j,none⟩=some u:=by
 have hbr:=hr.blk n _ hn;cases hbr with
 |arr _ _ c T hh hcs himm hfit hvs=>
  have aCJ:o*k.size+m*k.size≤es.length*k.size:=by rw[←KF];exact Kk _ hle
  have hml:((es.drop o).take m).length=m:=by simp;omega
  refine⟨(Kq (m*k.size)).map fun j=>c.getD (o*k.size+j) KW,⟨by rw[hml];simp,fun y hy=>hfit y (Qa (KH hy)),fun i hi j hj=>?_⟩,Zm,fun j u hu=>?_⟩
  ·rw[hml] at hi;have h1:=cC hj hi;have h2:=hvs (o+i) or j hj;have e1:((es.drop o).take m).getD i Kb=es.getD (o+i) Kb:=by rw[Kc,Kc,List.getElem?_take_of_lt hi,KL]
   have e2:((Kq (m*k.size)).map fun j=>c.getD (o*k.size+j) KW).getD (i*k.size+j) KW=c.getD ((o+i)*k.size+j) KW:=by
    rw[Kc,KP,Qe h1,KF,Nat.add_assoc];rfl
   rw[e1,e2];exact h2
  rw[KP] at hu;have hj:j<m*k.size:=by
   rcases KK j (m*k.size) with h|h
   ·exact h
   rw[List.getElem?_eq_none (by simpa using h)] at hu;cases hu
  rw[Qe hj] at hu;have hu:c.getD (o*k.size+j) KW=u:=by simpa using hu
  simp only[World.cell?,hh,Option.isSome_none,Bool.false_eq_true,if_false];rw[←hu,Kt,Array.getElem?_eq_getElem or];rfl
theorem nW(w:World)(dT sT ty elem:TypeId)(i:TypeInfo)(b o aVo aY5:Nat)(a:Addr)(aOT aUm m:Nat)(cs:List Value){w':World}
 (hu:P.underlying dT=some (.slice elem)) (hi:P.info? elem=some i) (hm:m=Nat.min aOT aVo) (hn:cs.length=m*i.size)
 (aOe:∀j v,cs[j]?=some v→w.cell? (a.add j)=some v) (hst:(storeCells ⟨b,o,none⟩ cs 0).run P w= .ok () w'):
 (Qr #[dT,sT] ty #[.slice (some ⟨b,o,none⟩) aVo aY5, .slice (some a) aOT aUm]).run P w= .ok (goInt m) w':=by
 have hl:=run_firstCells_some (P:=P) w i.size m a aOT aUm cs hn aOe;simp[Qr,run_underlying hu,Qt,sizeOf,typeInfo,hi,←hm,hl,hst]
theorem kp(w:World)(t t' ty e e':TypeId)(i:TypeInfo)(b o n cap:Nat)(a:Addr)(m c:Nat)(cs:List Value){w':World}
 (hu:P.underlying t=some (.slice e)) (hu':P.underlying t'=some (.slice e')) (hi:P.info? e=some i) (hn:cs.length=m*i.size) (hroom:n+m≤cap)
 (aOe:∀j v,cs[j]?=some v→w.cell? (a.add j)=some v) (hst:(storeCells ⟨b,o+n*i.size,none⟩ cs 0).run P w= .ok () w'):
 (KD #[t,t'] ty #[.slice (some ⟨b,o,none⟩) n cap, .slice (some a) m c]).run P w= .ok (.slice (some ⟨b,o,none⟩) (n+m) cap) w':=by
 have hl:=run_firstCells_some (P:=P) w i.size m a m c cs hn aOe;simp[KD,run_underlying hu,run_underlying hu',sizeOf,typeInfo,hi,Qt,hroom,hl,Addr.add_lit,hst]
theorem nR{ops:Array Oper}{o:Oper}{a:Act}{w:World}{K:Act→World→Prop}{Q:Exit→Act→World→Prop}{E:Prop}(bi:Builtin)
 (hg:o.guard=none) (xs:Array Operand) (ts:Array TypeId) (hop:o.op=Op.call {callee:=Callee.builtin bi,args:=xs,argTypes:=ts})
 (F:Sem Value) (hF:∀cs,builtin bi ts o.type cs (xs.map a.eval)=(do pure (.value (←F)))) {v':Value} {w':World} (hr:F.run P w= .ok v' w') (hK:K (a.put o.dst v') w'):
 if Region.wanted o (yielded ops a.tmps)=true then Oper.wp P o a w K Q else E:=by
 have hw:Region.wanted o (yielded ops a.tmps)=true:=by simp[Region.wanted,hg]
 rw[if_pos hw];unfold Oper.wp;simp[execOp,hop,resolve,invoke,hF,hr,Result.andThen];exact hK
theorem eC{ops:Array Oper}{rest:List Oper}{o:Oper}{a:Act}{w:World}{Q:Exit→Act→World→Prop}(bi:Builtin)
 (hg:o.guard=none) (xs:Array Operand) (ts:Array TypeId) (hop:o.op=Op.call {callee:=Callee.builtin bi,args:=xs,argTypes:=ts})
 (F:Sem Value) (hF:∀cs,builtin bi ts o.type cs (xs.map a.eval)=(do pure (.value (←F)))) {v':Value} {w':World} (hr:F.run P w= .ok v' w') (hK:wpList P ops Q rest (a.put o.dst v') w'):wpList P ops Q (o::rest) a w:=
 wpList_plain hg fun _ hk=>by
  unfold Oper.wp;simp[execOp,hop,resolve,invoke,hF,hr,Result.andThen];exact hk _ _ hK
end Go.Proofs.YtlhedpgobaellaaGreatDoor
namespace Go.Proofs.YtlhedpgobaellaaGreatDoor
open Go.RowKit Go.Shelf Go.Lib Go.Sort
theorem FO:∃i,Tryz.prog.info? 3=some i∧i.size=1∧i.zero=some (.int .i64 0):=by
 have h1:(Tryz.prog.info? 3).map (·.size)=some 1:=Zz;have h2:(Tryz.prog.info? 3).bind (·.zero)=some (.int .i64 0):=Zz;obtain⟨i,hi,h3⟩:=Option.map_eq_some_iff.1 h1;rw[hi] at h2;exact⟨i,hi,h3,h2⟩
def zin:V:= .int .i64 0
theorem EO(K:Ker):VR K zin (.int .i64 0):= .int _ _
set_option maxRecDepth 1000000 in
theorem A7(b L cap i j:Nat)(hij:j=i+1)(hj:j≤L)(hcap:L≤cap)(w w1 w2:World)
 (hap:∀(ty:TypeId) (A:Addr) (c:Nat),A=⟨b,j,none⟩∨L=j→(KD #[81,81] ty #[.slice (some ⟨b,0,none⟩) i cap, .slice (some A) (L-j) c]).run Tryz.prog w.drew= .ok (.slice (some ⟨b,0,none⟩) (i+(L-j)) cap) w1)
 (hcl:∀ty,(Builtin.clear_ #[81] ty #[.slice (some ⟨b,i+(L-j),none⟩) (L-(i+(L-j))) (cap-(i+(L-j)))]).run Tryz.prog w1= .ok (.tuple #[]) w2):
 Calls Tryz.prog 189 #[.slice (some ⟨b,0,none⟩) L cap, .int .i64 i, .int .i64 j] w fun e w'=>e= .returned (.slice (some ⟨b,0,none⟩) (i+(L-j)) cap)∧w'=w2:=by
 have hne:¬(i:Int)=(j:Int):=or;have hic:i≤cap:=or;have hjc:j≤cap:=or;obtain⟨A,hA,hap⟩:∃A:Addr,(if cap=j then some (⟨b,0,none⟩:Addr) else some ⟨b,j,none⟩)=some A∧Hid (∀(ty:TypeId) (c:Nat),(KD #[81,81] ty #[.slice (some ⟨b,0,none⟩) i cap, .slice (some A) (L-j) c]).run Tryz.prog w.drew= .ok (.slice (some ⟨b,0,none⟩) (i+(L-j)) cap) w1):=by
  by_cases h:cap=j
  ·exact⟨⟨b,0,none⟩,by simp[h],fun ty c=>hap ty _ c (.inr or)⟩
  exact⟨⟨b,j,none⟩,by simp[h],fun ty c=>hap ty _ c (.inl rfl)⟩
 have mixed:Tryz.prog.follows .mixedOrders=true:=Zz;have hle:i≤j:=or;have hlt:i<L:=or;have hLi:¬L=i:=or;have hci:¬cap=i:=or;have hcm:¬cap=i+(L-j):=or;have hml:i+(L-j)≤L:=or;clear hij
 go_enter Tryz.func189,Tryz.ntmps189
 go_wp2_with fail
 go_region_law_o (refine nR .append rfl #[.tmp 22, .tmp 25] _ rfl _ (fun _=>rfl) (by simpa [Act.eval,Act.put] using hap.out _ _) ?_)
 go_wp2
 go_ret
 exact⟨rfl,rfl⟩
theorem Bz(h:Hp)(n:Nat)(a b:Blk):(h.set n a).set n b=h.set n b:=by
 funext x;unfold Ka;split<;>rfl
theorem od{K:Ker}{a b c:V}{cargs:Array Value}(hv:VRs K [a,b,c] cargs):∃x y z,cargs=#[x,y,z]∧VR K a x∧VR K b y∧VR K c z:=by
 obtain⟨hsz,hv⟩:=hv;have hsz:cargs.size=3:=by simpa using hsz.symm
 have h0:=hv 0 Zm;have h1:=hv 1 Zm;have h2:=hv 2 Zm;refine⟨_,_,_,?_,h0,h1,h2⟩;apply Array.ext
 ·simp[hsz]
 intro i hi _;have:i=0∨i=1∨i=2:=or;rcases this with rfl|rfl|rfl<;>simp[Array.getD,hsz]
set_option maxRecDepth 100000 in
theorem fk(n:Nat)(l zs:List V)(i:Nat)(h:Hp)(nx:Nat)(hn:h n=some (.arr .leaf (l++zs)))(hi:i<l.length):
 aR Tryz.prog 189 [.rs n .leaf 0 l.length, .int .i64 i, .int .i64 (i+1:Nat)] h nx fun v h' _=>v= .rs n .leaf 0 (l.length-1)∧h'=h.set n (.arr .leaf (l.take i++l.drop (i+1)++(zin::zs))):=by
 refine⟨Zz,fun K cargs hlv hr hv=>?_⟩;obtain⟨x,y,z,rfl,v1,v2,v3⟩:=od hv;obtain⟨i0,hi0,hs0,hz0⟩:=FO;cases v2;cases v3;cases v1 with
 |rs _ _ _ _ cap hl hcap hm=>
  have hlt:=(hr.blk n _ hn).lt_size;obtain⟨cs,hc,hcl,hcr⟩:=lB hr.drew hn (o:=i+1) (m:=l.length-(i+1)) (by simp;omega);have hty:((l++zs).drop (i+1)).take (l.length-(i+1))=l.drop (i+1):=by rw[List.drop_append_of_le_length or,KI Zm,Ky Zm]
  rw[hty] at hc;have hyl:(l.drop (i+1)).length=l.length-(i+1):=Zm;have hbl:=dr (es:=l++zs) (o:=i) (ys:=l.drop (i+1)) (by simp;omega);obtain⟨K1,q1,q2,q3,q4,q5,q6⟩:=mN (P:=Tryz.prog) hr.drew hn (o:=i) (ys:=l.drop (i+1)) (by simp;omega) hc;have hn1:(h.set n (.arr .leaf (mZ (l++zs) i (l.drop (i+1))))) n=some (.arr .leaf (mZ (l++zs) i (l.drop (i+1)))):=by simp[Ka]
  have hK1:K.le K1:=K.le_drew.trans q2;have hmu1:K1.mu n=K.mu n:=hK1.mu n hl;obtain⟨T,m,hsh,hmm⟩:=hm;have vr1:VR K1 (.rs n .leaf (l.length-1) 1) (.slice (some ⟨K1.mu n,l.length-1,none⟩) 1 (cap-(l.length-1))):=by
   have:=VR.rs (K:=K1) n .leaf (l.length-1) 1 (cap-(l.length-1)) (hK1.live n hl) or ⟨T,m,by rw[hmu1,hK1.shape _ hlt];exact hsh,by rw[←hmm];congr 1;omega⟩;rwa [show Sh.leaf.size=1 from rfl,QA] at this
  obtain⟨K2,c1,c2,c3,c4⟩:=vI (P:=Tryz.prog) q6 hn1 (off:=l.length-1) (ln:=1) (by rw[hbl];simp;omega) vr1 Tryz.underlying81 hi0 hz0 (EO K1) rfl 0;have e1:i+(l.length-(i+1))=l.length-1:=or;have e2:l.length-(l.length-1)=1:=or;refine(A7 (K.mu n) l.length cap i (i+1) rfl or hcap K.w K1.w K2.w (fun ty A c hA=>?_) (fun ty=>?_)).mono ?_
  ·refine kp (P:=Tryz.prog) K.w.drew _ _ ty _ _ i0 (K.mu n) 0 i cap A (l.length-(i+1)) c cs Tryz.underlying81 Tryz.underlying81 hi0 (by rw[hcl,hs0];rfl) or (fun j u hj=>?_) ?_
   ·rcases hA with rfl|hA
    ·rw[Addr.add_lit];have:=hcr j u hj;rwa [show Sh.leaf.size=1 from rfl,QA] at this
    have:cs=[]:=List.length_eq_zero_iff.1 (by rw[hcl,show l.length-(i+1)=0 by omega,Qy]);rw[this] at hj;cases hj
   rw[hs0,Qj];exact q1
  ·rw[e1,e2,←hmu1];exact c1
  rintro e w' ⟨rfl,rfl⟩;have hK2:=hK1.trans c2;have vr:VR K (.rs n .leaf 0 (l.length-1)) (.slice (some ⟨K.mu n,0,none⟩) (l.length-1) cap):=by
   have:=VR.rs (K:=K) n .leaf 0 (l.length-1) cap hl or ⟨T,m,hsh,hmm⟩;rwa [Qy] at this
  refine⟨K2,_,_,_,nx,rfl,rfl,hK2,by rw[e1];exact vr.mono hK2,?_,fun m hm=>?_,Kz _,rfl,rfl⟩
  ·rw[Bz] at c4;have e3:mZ (l++zs) i (l.drop (i+1))=(l.take i++l.drop (i+1))++((l++zs).drop (l.length-1)):=by
    unfold mZ;rw[KI or,hyl,e1]
   have e4:(l.take i++l.drop (i+1)).length=l.length-1:=by simp;omega
   have e5:(l++zs).drop (l.length-1+1)=zs:=by rw[show l.length-1+1=l.length by omega];simp
   have:(mZ (l++zs) i (l.drop (i+1))).take (l.length-1)++List.replicate 1 zin++(mZ (l++zs) i (l.drop (i+1))).drop (l.length-1+1)=l.take i++l.drop (i+1)++(zin::zs):=by
    have e6:(l.take i++l.drop (i+1)++(l++zs).drop (l.length-1)).drop (l.length-1+1)=zs:=by
     rw[List.drop_append,List.drop_of_length_le or,e4,show l.length-1+1-(l.length-1)=1 by omega,List.drop_drop,e5,Qu]
    rw[e3,List.take_left' e4,e6];simp[KO]
   rw[this] at c4;exact c4
  have h1:=c3 m hm;rw[q3] at h1;exact⟨hlv m h1, .inl h1⟩
end Go.Proofs.YtlhedpgobaellaaGreatDoor
namespace Go.Proofs.YtlhedpgobaellaaGreatDoor
open Go.RowKit Go.Sort
attribute [local irreducible] Kw
instance:Inhabited Am:=⟨⟨⟨#[]⟩, .nil,[]⟩⟩
instance:Inhabited Li:=⟨⟨0,default,0,default,default,0⟩⟩
def iL(s:List ByteArray)(l:Li):Bool:=(decide (l.k≠1)&&kL s l.vars)||iE s l
theorem sU{l:Li}(h:bW l=true):l.vars.length≤2097158:=by
 have h1:=qK l.ts [];have h2:=nG h;simp only[jM] at h1;unfold Li.vars;omega
theorem we(s:List ByteArray)(hl:s.length≤1000000000)(n:Nat)(es:List ME)(c:Nat)(h:Hp)(hm:h n=some (.mp es c))(hs:gC es s)(l:Li)(hr:bW l=true):aL Tryz.prog 233 [.map n,l.v] h (.bool (iL s l)):=by
 refine aI (fun L=>trivial) fun h' nx hh=>aB L.aUA fun hd=>?_;have hm1:=hh _ _ hm rfl;have n1:n<nx:=hd _ _ hm1;have b1:=sU hr;obtain⟨o1,ho1⟩:=fH .leaf (l.vars.map V.str);have C1:∀h:Hp,aL Tryz.prog 75 [l.v] h (.sl .leaf o1 (l.vars.map V.str)):=fun h=>ho1▸yN l hr h;have hf:=Li.aAD l;have C2:∀h:Hp,h n=some (.mp es c)→aL Tryz.prog 229 [.map n, .sl .leaf o1 (l.vars.map V.str)] h (.bool (kL s l.vars)):=fun h hm=>vX s hl n es c h hm hs o1 _ or;have C3:∀h:Hp,h n=some (.mp es c)→aL Tryz.prog 186 [.map n,l.v] h (.bool (iE s l)):=fun h hm=>zF s hl n es c h hm hs l hr;obtain⟨T,hT,hk⟩:∃T,l.v= .agg T∧T.getD 0 (.tup [])= .int .i64 l.k:=⟨_,rfl,rfl⟩;rw[hT] at C1 C3 hf⊢;refine ZK ?_;unfold iL;by_cases k1:l.k=1
 ·have g1:(l.k != 1)=false:=bnf;refine aue (e4 hf hk g1 n1) ?_;refine aJ (C3 (h'.set nx (.arr (.agg 17) [.agg T])) (by simp only[hm1,n1,go_sem,reduceIte,jA,jB,jC,jD,reduceCtorEq,jE,jF])) rfl (aH _) ?_;refine Zn ?_;refine au ?_;refine aC h' (leo hd) ⟨?_,rfl⟩;simp[k1]
 have g1:(l.k != 1)=true:=bnt;refine aue (e4 hf hk g1 n1) ?_;refine aJ (C2 (h'.set nx (.arr (.agg 17) [.agg T])) (by simp only[hm1,n1,go_sem,reduceIte,jA,jB,jC,jD,reduceCtorEq,jE,jF])) rfl (aH _) ?_;refine Zn ?_;cases ka:kL s l.vars with
 |true=>
  refine au ?_;refine aC h' (leo hd) ⟨?_,rfl⟩;simp[k1]
 |false=>
  refine aue (e2 hf n1) ?_;refine aJ (C3 (h'.set nx (.arr (.agg 17) [.agg T])) (by simp only[hm1,n1,go_sem,reduceIte,jA,jB,jC,jD,reduceCtorEq,jE,jF])) rfl (aH _) ?_;refine Zn ?_;refine au ?_;refine aC h' (leo hd) ⟨?_,rfl⟩;simp[k1]
theorem uv(r:Ru)(hr:dW r=true)(s:List ByteArray)(hl:s.length≤1000000000)(n:Nat)(es:List ME)(c:Nat)(h:Hp)(hm:h n=some (.mp es c))(hs:gC es s)(p q:Nat)(hp:h p=some (.arr .leaf [.map n]))(hq:h q=some (.arr (.agg 6) [r.v]))(k:Nat)(hk:k<r.b.length):
 aL Tryz.prog 232 [.int .i64 k, .ptr p .leaf 0 0, .ptr q (.agg 6) 0 0] h (.bool (iL s (r.b.getD k default))):=by
 refine aI (fun L=>trivial) fun h' nx hh=>aB L.aUB fun hd=>?_;refine ZK ?_;have hm1:=hh _ _ hm rfl;have hp1:=hh _ _ hp rfl;have hq1:=hh _ _ hq rfl;have n2:p<nx:=hd _ _ hp1;have n3:q<nx:=hd _ _ hq1;have hg:=aO Li.v r.b k hk;have hD:r.b.getD k default=r.b[k]:=by rw[Kc,Kf hk];rfl
 have hrl:=(dG hr).2.2 r.b[k] (Km _);rw[hD];generalize r.b[k]=l at hg hrl;have hf:=Li.aAD l;have C:=we s hl n es c h' hm1 hs l hrl;obtain⟨X,hX⟩:∃X,l.v=X:=⟨_,rfl⟩;rw[hX] at hg hf C;refine aue (e8 hp1 hq1 hg hk Ru.v.eq_1 (@jK Li V) (jG k) (bP hf)) ?_;refine bC C rfl (aH _) ?_;refine Zn ?_;refine au ?_;exact aC h' (leo hd) ⟨rfl,rfl⟩
theorem uu(r:Ru)(p:Nat)(h:Hp)(hp:h p=some (.arr (.agg 6) [r.v]))(k:Nat)(hk:k<r.b.length):
 aL Tryz.prog 234 [.int .i64 k, .ptr p (.agg 6) 0 0] h (.bool (decide ((r.b.getD k default).k=1))):=by
 refine aI (fun L=>trivial) fun h' nx hh=>aB L.aT9 fun hd=>?_;refine ZK ?_;have hp1:=hh _ _ hp rfl;have n2:p<nx:=hd _ _ hp1;have hg:=aO Li.v r.b k hk;have hD:r.b.getD k default=r.b[k]:=by rw[Kc,Kf hk];rfl
 rw[hD];generalize r.b[k]=l at hg;obtain⟨T,hT,hk0⟩:∃T,l.v= .agg T∧T.getD 0 (.tup [])= .int .i64 l.k:=⟨_,rfl,rfl⟩;rw[hT] at hg;refine aue (e8 hp1 hg hk Ru.v.eq_1 (@jK Li V) (jG k) hk0 n2) ?_;exact aC h' (leo hd) ⟨vb (by rw[Bool.eq_iff_iff];simp),rfl⟩
def kV(k:Nat):V:= .int .i64 k
theorem ym:aE Tryz.prog 231=some (LB.aAU .leaf):=Zz
theorem AO(p:Nat→Bool)(n:Nat)(l:List Nat)(zs:List V)(g:Nat)(caps:List V)(h:Hp)(hn:h n=some (.arr .leaf (l.map kV++zs)))(hp:∀x∈l,aL Tryz.prog g ([kV x]++caps) h (.bool (p x)))(hl:l.length≤1000000000):
 aL Tryz.prog 231 [.rs n .leaf 0 l.length, .fn (.func g) [] caps] h (.int .i64 (bG p l)):=by
 refine aI (fun L=>trivial) fun h' nx hh=>aB ym fun hd=>?_;have hn':=hh n _ hn rfl;refine ZK ?_;refine au ?_;refine aP (fun i:Nat=>aD 19 0 [(0, .rs n .leaf 0 l.length),(1, .fn (.func g) [] caps),(7, .int .i64 l.length),(8, .int .i64 i)]) (fun i hp2 _=>i≤l.length∧hp2=h'∧∀x∈l.take i,p x=false) (fun i=>l.length-i) 0 ⟨KG _,rfl,Zm⟩ ?_ ?_
 ·simp only[WkL,aD,jH,jI,jJ,go_sem,reduceIte,jA,jB,jC,jD,reduceCtorEq,jE,jF]
 rintro i hp2 nx1 ⟨hi,rfl,hno⟩;generalize hQ:bB _ _ _ _ _=Q0;refine Zk ?_;rcases KK i l.length with hlt|hge
 ·have hc:decide ((i:Int)<(l.length:Int))=true:=decide_eq_true or;have hg:(l.map kV++zs).getD i (.tup [])= .int .i64 l[i]:=by rw[Kc,Ko (by simpa using hlt),←Kc];exact aO kV l i hlt
  have hap:(l.map kV++zs).length=l.length+zs.length:=Zm;have hlz:i<l.length+zs.length:=or;have hw:IntKind.i64.wrap ((i:Int)+1)=((i+1:Nat):Int):=by rw[fI]<;>omega
  have htk:l.take (i+1)=l.take i++[l[i]]:=Kx hlt
  (repeat' (first|(with_reducible first|refine stp ?_|refine cD ZM ?_|refine vH (fun _=>?_) (fun _=>?_))|((first|(with_reducible refine mJ ?_;first|refine kB rfl ?_ ?_|refine cM rfl (hp l[i] (Km _)) rfl hh ?_|refine Zx ?_)|(with_reducible refine mL ?_;first|refine kF rfl ?_ ?_|refine ZX ?_)|refine Zy ?_)<;>try simp only[hc,hg,hw,hlt,hn',hap,hlz,Qj,jG,jQ,go_sem,reduceIte,jA,jB,jC,jD,reduceCtorEq,jE,jF])|refine ZY ?_|omega))
  ·rename_i hx;rw[←hQ];refine au ?_;refine aC hp2 (Ke _) ⟨?_,rfl⟩;refine Zn ?_;rw[bG,(KE (p:=p) (xs:=l) (i:=i)).2 ⟨hlt,hx,fun j hj=>by simp[hno l[j] (List.mem_take_iff_getElem.2 ⟨j,or,rfl⟩)]⟩]
  rename_i hx;rw[←hQ];refine aG (i+1) or ⟨hlt,rfl,fun x hx2=>?_⟩ ?_
  ·rw[htk] at hx2;rcases Kj.1 hx2 with h1|h1
   ·exact hno x h1
   simp at h1;rw[h1];exact hx
  simp only[WkL,aD,jH,jI,jJ,go_sem,reduceIte,jA,jB,jC,jD,reduceCtorEq,jE,jF]
 have hc:decide ((i:Int)<(l.length:Int))=false:=decide_eq_false or;refine aue hc ?_;rw[←hQ];refine au ?_;refine aC hp2 (Ke _) ⟨?_,rfl⟩;refine Zn ?_;rw[show i=l.length by omega,List.take_length] at hno;rw[bG,List.findIdx?_eq_none_iff.2 (fun x hx=>by simp[hno x hx])]
def PlL(h:Hp)(n0:Nat)(l:List Nat)(v:V):Prop:=(l=[]∧v= .sl .leaf .nil [])∨∃id zs,n0≤id∧v= .rs id .leaf 0 l.length∧h id=some (.arr .leaf (l.map kV++zs))
theorem PlL.le{h h':Hp}{n0:Nat}{l:List Nat}{v:V}(o:PlL h n0 l v)(hle:h.le h'):PlL h' n0 l v:=o.imp id fun⟨i,z,b,c,d⟩=>⟨i,z,b,c,hle _ _ d⟩
theorem bo(p:Nat→Bool){h:Hp}{n0:Nat}{l:List Nat}{v:V}(hv:PlL h n0 l v)(g:Nat)(caps:List V)(h':Hp)(hh:h.has h')(hp:∀x∈l,aL Tryz.prog g ([kV x]++caps) h' (.bool (p x)))(hl:l.length≤1000000000):
 aL Tryz.prog 231 [v, .fn (.func g) [] caps] h' (.int .i64 (bG p l)):=by
 rcases hv with⟨rfl,rfl⟩|⟨id,zs,h2,rfl,h3⟩
 ·exact mX kV (fun _=>rfl) ym p .nil [] g caps h' (fun x hx=>by cases hx) Zm
 exact AO p id l zs g caps h' (hh _ _ h3 rfl) hp hl
def jY(r:Ru)(s:List ByteArray)(left:List Nat):Int:=
 if 0≤bG (fun k=>iL s (r.b.getD k default)) left then bG (fun k=>iL s (r.b.getD k default)) left else bG (fun k=>decide ((r.b.getD k default).k=1)) left
theorem ua(r:Ru)(hr:dW r=true)(s:List ByteArray)(hl:s.length≤1000000000)(n:Nat)(es:List ME)(c:Nat)(h:Hp)(hm:h n=some (.mp es c))(hs:gC es s)(left:List Nat)(hleft:∀k∈left,k<r.b.length)(hll:left.length≤1000)(n0:Nat)(v:V)(hv:PlL h n0 left v):
 aL Tryz.prog 188 [.map n,r.v,v] h (.int .i64 (jY r s left)):=by
 refine aI (fun L=>trivial) fun h' nx hh=>aB L.aWi fun hd=>?_;have hm1:=hh _ _ hm rfl;have n1:n<nx:=hd _ _ hm1;obtain⟨X,hX⟩:∃X,r.v=X:=⟨_,rfl⟩;have hf:X.fits (.agg 6)=true:=by rw[←hX];rfl
 rw[hX];refine ZK ?_;obtain⟨H,hH⟩:∃H,H=(h'.set nx (.arr .leaf [.map n])).set (nx+1) (.arr (.agg 6) [X]):=⟨_,rfl⟩;have hle:h'.le H:=by rw[hH];exact leo hd
 have C5:aL Tryz.prog 231 [v, .fn (.func 232) [] [.ptr nx .leaf 0 0, .ptr (nx+1) (.agg 6) 0 0]] H (.int .i64 (bG (fun k=>iL s (r.b.getD k default)) left)):=
  bo _ hv _ _ _ (nN hh (wF hle)) (fun k hk=>uv r hr s hl n es c H (hle _ _ hm1) hs nx (nx+1) (by rw[hH];simp[Ka]) (by rw[hH,hX];simp[Ka]) k (hleft k hk)) or
 have C6:aL Tryz.prog 231 [v, .fn (.func 234) [] [.ptr (nx+1) (.agg 6) 0 0]] H (.int .i64 (bG (fun k=>decide ((r.b.getD k default).k=1)) left)):=
  bo _ hv _ _ _ (nN hh (wF hle)) (fun k hk=>uu r (nx+1) H (by rw[hH,hX];simp[Ka]) k (hleft k hk)) or
 rw[hH] at C5 C6;unfold jY;by_cases hz:0≤bG (fun k=>iL s (r.b.getD k default)) left
 ·have g1:decide (0≤bG (fun k=>iL s (r.b.getD k default)) left)=true:=dct;refine aue (e2 hf g1) ?_;refine aC h' (leo hd) ⟨?_,rfl⟩;rw[if_pos hz];rfl
 have g1:decide (0≤bG (fun k=>iL s (r.b.getD k default)) left)=false:=dcf;refine aue (e2 hf g1) ?_;refine aC h' (leo hd) ⟨?_,rfl⟩;rw[if_neg hz];rfl
end Go.Proofs.YtlhedpgobaellaaGreatDoor
namespace Go.Proofs.YtlhedpgobaellaaGreatDoor
open Go.RowKit Go.Sort
attribute [local irreducible] Kw
theorem kI{s vs:List ByteArray}:kL s vs=true↔∀v∈vs,v∈s:=by simp[kL,pS]
theorem wT{s t vs:List ByteArray}(h:∀x∈s,x∈t)(ha:kL s vs=true):kL t vs=true:=kI.2 fun v hv=>h v (kI.1 ha v hv)
theorem ae{l:Li}{x:ByteArray}:x∈l.vars↔∃t∈l.ts,t.x=x∧t.x.size≠0:=by
 unfold Li.vars;rw[tP];simp
theorem sx{e:Ex}(h:(cV e).size≠0):e.ts=[e.t]∧cV e=e.t.x:=by
 unfold cV at h⊢;split at h
 ·exact absurd rfl h
 rename_i hc;rw[if_neg hc];simp only[not_or,Classical.not_not,ne_eq] at hc;rw[Ex.aGT,if_pos hc.2];exact⟨rfl,rfl⟩
theorem j1{e:Ex}{l:Li}(h:(cV e).size≠0)(hs:∀t∈e.ts,t∈l.ts):cV e∈l.vars:=by
 obtain⟨h1,h2⟩:=sx h;rw[ae];exact⟨e.t,hs _ (by rw[h1];simp),h2.symm,by rw[←h2];exact h⟩
theorem Gb{l:Li}:∀t∈l.x.ts,t∈l.ts:=fun t h=>by simp[Li.ts,h]
theorem Ga{l:Li}:∀t∈l.y.ts,t∈l.ts:=fun t h=>by simp[Li.ts,h]
theorem zz{s:List ByteArray}{l:Li}(h:iE s l=true):kL s l.vars=false:=by
 unfold iE at h;simp only[KB,Qv,decide_eq_true_eq,Ql] at h;rw[←Bool.not_eq_true];intro ha;rcases h.2 with⟨⟨h1,h2⟩,_⟩|⟨⟨h1,h2⟩,_⟩
 ·exact uX.1 h2 (kI.1 ha _ (j1 h1 Gb))
 exact uX.1 h2 (kI.1 ha _ (j1 h1 Ga))
def oP(b:List Li)(s:List ByteArray):Nat:=(b.filter fun l=> !kL s l.vars).length
theorem DS(b:List Li){s t:List ByteArray}(h:∀x∈s,x∈t):oP b t≤oP b s:=by
 unfold oP;induction b with
 |nil=>exact Kz _
 |cons a b ih=>
  simp only[Qp];cases h1:kL s a.vars with
  |true=>rw[wT h h1];simpa using ih
  |false=>cases kL t a.vars<;>simp<;>omega
theorem tQ{b:List Li}{s:List ByteArray}{l:Li}(hl:l∈b)(h:iE s l=true):oP b (s++l.vars)<oP b s:=by
 have h0:=zz h;have h1:kL (s++l.vars) l.vars=true:=kI.2 fun v hv=>Kj.2 (.inr hv);unfold oP;induction b with
 |nil=>cases hl
 |cons a b ih=>
  have hm:=DS b (s:=s) (t:=s++l.vars) fun x hx=>Kj.2 (.inl hx);unfold oP at hm;simp only[Qp];rcases Ks.1 hl with rfl|hl
  ·rw[h0,h1];simp;omega
  have:=ih hl;cases h2:kL s a.vars with
  |true=>rw[wT (t:=s++l.vars) (fun x hx=>Kj.2 (.inl hx)) h2];simpa using this
  |false=>cases kL (s++l.vars) a.vars<;>simp<;>omega
def gQ(b:List Li):Nat→List ByteArray→List ByteArray
 |0,s=>s
 |n+1,s=>match b.find? (iE s) with
  |some l=>gQ b n (s++l.vars)
  |none=>s
theorem xM(b:List Li):∀(n k:Nat) (s:List ByteArray),oP b s≤n→oP b s≤k→gQ b n s=gQ b k s
 |0,0,s,_,_=>rfl
 |0,k+1,s,h,_=>by
  unfold gQ;cases hf:b.find? (iE s) with
  |none=>rfl
  |some l=>have:=tQ (Kp hf) (KC hf);omega
 |n+1,0,s,_,h=>by
  unfold gQ;cases hf:b.find? (iE s) with
  |none=>rfl
  |some l=>have:=tQ (Kp hf) (KC hf);omega
 |n+1,k+1,s,h1,h2=>by
  unfold gQ;cases hf:b.find? (iE s) with
  |none=>rfl
  |some l=>
   have:=tQ (Kp hf) (KC hf);exact xM b n k _ or or
def xQ(b:List Li):List ByteArray:=b.flatMap fun l=>if l.k=1 then l.vars else []
def fU(r:Ru):List ByteArray:=gQ r.b (oP r.b (xQ r.b)) (xQ r.b)
theorem sh{b:List Li}{s:List ByteArray}{l:Li}(hf:b.find? (iE s)=some l):gQ b (oP b s) s=gQ b (oP b (s++l.vars)) (s++l.vars):=by
 have hlt:=tQ (Kp hf) (KC hf);obtain⟨m,hm⟩:∃m,oP b s=m+1:=⟨oP b s-1,or⟩;rw[hm];conv=>lhs;unfold gQ
 rw[hf];exact xM b _ _ _ or (Kz _)
theorem sj{b:List Li}{s:List ByteArray}(hf:b.find? (iE s)=none)(n:Nat):gQ b n s=s:=by
 cases n with
 |zero=>rfl
 |succ n=>unfold gQ;rw[hf]
theorem pn{b:List Li}(h:∀l∈b,bW l=true):(xQ b).length≤b.length*2097158:=by
 unfold xQ;induction b with
 |nil=>simp
 |cons a b ih=>
  have h1:=ih fun l hl=>h l (Qb _ hl);have h2:=sU (h a Qg);have h3:(if a.k=1 then a.vars else []).length≤2097158:=by
   split
   ·exact h2
   simp
  rw[List.flatMap_cons,Ku,jL,KF];omega
theorem Al(b:List Li)(i:Nat)(h:i<b.length):xQ (b.take (i+1))=xQ (b.take i)++(if b[i].k=1 then b[i].vars else []):=by
 unfold xQ;rw[Kx h,List.flatMap_append];simp
theorem AY{α:Type}{p:α→Bool}{b:List α}{i:Nat}(h:i<b.length)(h1:∀x∈b.take i,p x=false)(h2:p b[i]=true):b.find? p=some b[i]:=by
 have e:b=b.take i++b[i]::b.drop (i+1):=by rw[←List.drop_eq_getElem_cons h,List.take_append_drop]
 conv=>lhs;rw[e]
 rw[List.find?_append,Qh.2 (fun x hx=>by simp[h1 x hx]),Option.none_or,List.find?_cons_of_pos h2]
theorem sg(r:Ru)(hr:dW r=true)(h:Hp)(nx:Nat):aR Tryz.prog 121 [r.v] h nx fun v h' nx'=>∃n es c,v= .map n∧nx≤n∧h' n=some (.mp es c)∧gC es (fU r)∧(fU r).length≤1000000000∧Kg nx h h':=by
 refine aB L.aXZ fun hd=>?_;obtain⟨b1,b2,b3⟩:=dG hr;refine ZK ?_;refine aue (e3 Ru.v.eq_1 trs.eq_1 (@jK Li V)) ?_;refine pN ?_;refine Zn ?_;refine aue (e3 Ru.v.eq_1 trs.eq_1 (@jK Li V)) ?_
 refine aP (fun i:Nat=>aD 40 0 [(1, .ptr nx (.agg 6) 0 0),(3, .map (nx+1)),(10, .sl (.agg 17) r.o (r.b.map Li.v)),(11, .int .i64 r.b.length),(12, .int .i64 i)])
  (fun i hp nx2=>i≤r.b.length∧nx+2≤nx2∧aV hp nx2∧Kg nx h hp∧hp nx=some (.arr (.agg 6) [.agg [.str r.h.r, .sl (.agg 4) r.h.o (r.h.l.map Tr.v), .int .i64 r.g, .int .i64 r.c, .sl (.agg 17) r.o (r.b.map Li.v), .int .i64 r.at_]])∧∃es c,hp (nx+1)=some (.mp es c)∧gC es (xQ (r.b.take i)))
  (fun i=>r.b.length-i) 0 ⟨KG _,Zw,by exact dmo hd,by exact kep Hp.same.aA0,by simp only[go_sem,reduceIte,jA,jB,jC,jD,reduceCtorEq,jE,jF],[],0,by simp only[go_sem,reduceIte,jA,jB,jC,jD,reduceCtorEq,jE,jF],by exact ib⟩ (by simp only[WkL,aD,jH,jI,jJ,jK,go_sem,reduceIte,jA,jB,jC,jD,reduceCtorEq,jE,jF]) ?_
 rintro i hp nx2 ⟨hi,hnx,hdm,hsm,hbx,es,c,hme,hse⟩;generalize hQ:bB _ _ _ _ _=Q0;refine Zk ?_;rcases KK i r.b.length with hlt|hge
 ·have hc:decide ((i:Int)<(r.b.length:Int))=true:=dct;have f1:(nx=nx2)=False:=fls;have f2:(nx+1=nx2)=False:=fls;have hg:=aO Li.v r.b i hlt;have hw:IntKind.i64.wrap ((i:Int)+1)=((i+1:Nat):Int):=wrp;have htk:=Al r.b i hlt;have hrl:=b3 r.b[i] (Km _);have hpl:=pn (b:=r.b.take i) fun l hl=>b3 l (KH hl);have hml:(r.b.take i).length*2097158≤8*2097158:=Kk _ (by rw[Qo];omega);generalize r.b[i]=l at hg htk hrl;have hvl:=sU hrl;have hf:=Li.aAD l;obtain⟨o1,ho1⟩:=fH .leaf (l.vars.map V.str);have C1:∀h:Hp,aL Tryz.prog 75 [l.v] h (.sl .leaf o1 (l.vars.map V.str)):=fun h=>ho1▸yN l hrl h;obtain⟨T,hT,hk⟩:∃T,l.v= .agg T∧T.getD 0 (.tup [])= .int .i64 l.k:=⟨_,rfl,rfl⟩;rw[hT] at hg hf C1;by_cases k1:l.k=1
  ·have g1:(l.k==1)=true:=bqt;rw[if_pos k1] at htk;refine aue (e9 hc hg hlt hf hk g1 (@jK Li V) jG hw) ?_;refine aU ((rX o1 l.vars (xQ (r.b.take i)) or (nx+1) es c _ (nx2+2) (by simp only[hme,f2,go_sem,reduceIte,jA,jB,jC,jD,reduceCtorEq,jE,jF]) hse).dom.mono ?_);rintro v h2 nx3 aAV ⟨⟨es2,c2,q1,q2,q3⟩,hd2,_⟩;unfold bT;refine Zn ?_;refine aue (e2 hw hc) ?_;rw[←hQ];refine aG (i+1) or ⟨hlt,or,hd2,fun m hm=>?_,?_,es2,c2,q1,by rw[htk];exact q2⟩ (by simp only[WkL,aD,jH,jI,jJ,go_sem,reduceIte,jA,jB,jC,jD,reduceCtorEq,jE,jF])
   ·rw[q3 m or or,←hsm m hm];have f3:(m=nx2)=False:=fls;simp only[Ka,f3,if_false]
   rw[q3 nx or or];simp only[hbx,f1,go_sem,reduceIte,jA,jB,jC,jD,reduceCtorEq,jE,jF]
  have g1:(l.k==1)=false:=bqf;rw[if_neg k1,Qw] at htk;refine aue (e9 hc hg hlt hf hk g1 (@jK Li V) jG hw) ?_;rw[←hQ];refine aG (i+1) or ⟨hlt,or,dmo hdm,kep hsm,?_,es,c,?_,by rw[htk];exact hse⟩ (by simp only[WkL,aD,jH,jI,jJ,go_sem,reduceIte,jA,jB,jC,jD,reduceCtorEq,jE,jF])
  ·simp only[hbx,f1,go_sem,reduceIte,jA,jB,jC,jD,reduceCtorEq,jE,jF]
  simp only[hme,f2,go_sem,reduceIte,jA,jB,jC,jD,reduceCtorEq,jE,jF]
 have hc:decide ((i:Int)<(r.b.length:Int))=false:=dcf;refine aue hc ?_;rw[←hQ];refine au ?_;rw[Ky or] at hse;have hpl:=pn (b:=r.b) b3;have hml:r.b.length*2097158≤8*2097158:=Kk _ b2
 --again and again
 refine aP (fun s:List ByteArray=>aD 40 0 [(1, .ptr nx (.agg 6) 0 0),(3, .map (nx+1))])
  (fun s hp nx2=>nx+2≤nx2∧aV hp nx2∧Kg nx h hp∧hp nx=some (.arr (.agg 6) [.agg [.str r.h.r, .sl (.agg 4) r.h.o (r.h.l.map Tr.v), .int .i64 r.g, .int .i64 r.c, .sl (.agg 17) r.o (r.b.map Li.v), .int .i64 r.at_]])∧(∃es c,hp (nx+1)=some (.mp es c)∧gC es s)∧fU r=gQ r.b (oP r.b s) s∧s.length+oP r.b s*2097158≤16*2097158)
  (fun s=>oP r.b s) (xQ r.b) ⟨hnx,hdm,hsm,hbx,⟨es,c,hme,hse⟩,rfl,?_⟩ (by simp only[WkL,aD,jH,jI,jJ,go_sem,reduceIte,jA,jB,jC,jD,reduceCtorEq,jE,jF]) ?_
 ·have:oP r.b (xQ r.b)*2097158≤8*2097158:=Kk _ (Nat.le_trans (List.length_filter_le ..) b2);omega
 rintro s hp nx2 ⟨hnx,hdm,hsm,hbx,⟨es,c,hme,hse⟩,aAh,hsl⟩;generalize hQ:bB _ _ _ _ _=Q0;refine Zk ?_;have n1:nx<nx2:=or;refine aue (e3 hbx n1 (@jK Li V)) ?_
 refine aP (fun i:Nat=>aD 40 0 [(1, .ptr nx (.agg 6) 0 0),(3, .map (nx+1)),(25, .sl (.agg 17) r.o (r.b.map Li.v)),(26, .int .i64 r.b.length),(27, .int .i64 i)])
  (fun i hp nx2=>i≤r.b.length∧nx+2≤nx2∧aV hp nx2∧Kg nx h hp∧hp nx=some (.arr (.agg 6) [.agg [.str r.h.r, .sl (.agg 4) r.h.o (r.h.l.map Tr.v), .int .i64 r.g, .int .i64 r.c, .sl (.agg 17) r.o (r.b.map Li.v), .int .i64 r.at_]])∧hp (nx+1)=some (.mp es c)∧∀l∈r.b.take i,iE s l=false)
  (fun i=>r.b.length-i) 0 ⟨KG _,hnx,hdm,hsm,hbx,hme,Zm⟩ (by simp only[WkL,aD,jH,jI,jJ,jK,go_sem,reduceIte,jA,jB,jC,jD,reduceCtorEq,jE,jF]) ?_
 rintro i hp nx2 ⟨hi,hnx,hdm,hsm,hbx,hme,hno⟩;generalize hQ2:bB _ _ _ _ _=Q2;refine Zk ?_;rcases KK i r.b.length with hlt|hge
 ·have hc:decide ((i:Int)<(r.b.length:Int))=true:=dct;have f1:(nx=nx2)=False:=fls;have f2:(nx+1=nx2)=False:=fls;have hg:=aO Li.v r.b i hlt;have hw:IntKind.i64.wrap ((i:Int)+1)=((i+1:Nat):Int):=wrp;have hrl:=b3 r.b[i] (Km _);obtain⟨l,hl⟩:∃l,r.b[i]=l:=⟨_,rfl⟩;have hvl:=sU hrl;rw[hl] at hg hrl hvl;have hf:=Li.aAD l;obtain⟨o1,ho1⟩:=fH .leaf (l.vars.map V.str);have C1:∀h:Hp,aL Tryz.prog 75 [l.v] h (.sl .leaf o1 (l.vars.map V.str)):=fun h=>ho1▸yN l hrl h;have S:∀h:Hp,h (nx+1)=some (.mp es c)→aL Tryz.prog 186 [.map (nx+1),l.v] h (.bool (iE s l)):=fun h hm=>zF s or (nx+1) es c h hm hse l hrl;obtain⟨X,hX⟩:∃X,l.v=X:=⟨_,rfl⟩;rw[hX] at hg hf C1 S;refine aue (e7 hc hg hlt hf (@jK Li V) jG hw) ?_;refine aJ (S _ (by simp only[hme,f2,go_sem,reduceIte,jA,jB,jC,jD,reduceCtorEq,jE,jF])) rfl (aH _) ?_;refine Zn ?_;cases hss:iE s l with
  |true=>
   have hfd:=AY (p:=iE s) hlt hno (by rw[hl];exact hss);rw[hl] at hfd;have aOM:=tQ (Kp hfd) hss;refine aue hf ?_;refine aU ((rX o1 l.vars s or (nx+1) es c _ (nx2+2) (by simp only[hme,f2,go_sem,reduceIte,jA,jB,jC,jD,reduceCtorEq,jE,jF]) hse).dom.mono ?_);rintro v h2 nx3 aAV ⟨⟨es2,c2,q1,q2,q3⟩,hd2,_⟩;unfold bT;refine Zn ?_;refine au ?_;rw[←hQ2];refine au ?_;rw[←hQ];refine aG (s++l.vars) aOM ⟨or,hd2,fun m hm=>?_,?_,⟨es2,c2,q1,q2⟩,by rw[aAh];exact sh hfd,?_⟩ (by simp only[WkL,aD,jH,jI,jJ,go_sem,reduceIte,jA,jB,jC,jD,reduceCtorEq,jE,jF])
   ·rw[q3 m or or,←hsm m hm];have f3:(m=nx2)=False:=fls;simp only[Ka,f3,if_false]
   ·rw[q3 nx or or];simp only[hbx,f1,go_sem,reduceIte,jA,jB,jC,jD,reduceCtorEq,jE,jF]
   rw[Ku];have:=Kk 2097158 aOM;omega
  |false=>
   refine aue hw ?_;rw[←hQ2];refine aG (i+1) or ⟨hlt,or,dmo hdm,kep hsm,?_,?_,fun x hx=>?_⟩ (by simp only[WkL,aD,jH,jI,jJ,go_sem,reduceIte,jA,jB,jC,jD,reduceCtorEq,jE,jF])
   ·simp only[hbx,f1,go_sem,reduceIte,jA,jB,jC,jD,reduceCtorEq,jE,jF]
   ·simp only[hme,f2,go_sem,reduceIte,jA,jB,jC,jD,reduceCtorEq,jE,jF]
   rw[Kx hlt,Kj,KM] at hx;rcases hx with hx|rfl
   ·exact hno x hx
   rw[hl];exact hss
 have hc:decide ((i:Int)<(r.b.length:Int))=false:=dcf;refine aue hc ?_;rw[←hQ2];refine au ?_;rw[←hQ];refine au ?_;rw[Ky or] at hno;have hbl:fU r=s:=by rw[aAh];exact sj (Qh.2 fun x hx=>by simp[hno x hx]) _
 exact aC hp (Ke _) ⟨nx+1,es,c,rfl,or,hme,by rw[hbl];exact hse,by rw[hbl];omega,hsm⟩
end Go.Proofs.YtlhedpgobaellaaGreatDoor
namespace Go.Proofs.YtlhedpgobaellaaGreatDoor
open Go.RowKit Go.Sort
attribute [local irreducible] Kw
theorem j7(r:Ru)(hr:dW r=true)(h:Hp):aL Tryz.prog 71 [r.v] h (.sl .leaf (frO r.vars) ((dN r (fU r) false).map V.str)):=by
 have hnm:∀L,(V.sl .leaf (frO r.vars) ((dN r (fU r) false).map V.str)).names L:=fun L=>⟨fun m e=>(by unfold frO at e;split at e<;>cases e),cK (f:=V.str) (fun _=>trivial) _⟩;refine aI hnm fun h' nx hh=>aB L.aX6 fun hd=>?_;have hd:aV h' nx:=hd;have hB:=fun h nx=>sg r hr h nx;have hS:=fun n es c h hm hs=>zI r hr (fU r) n es c h hm hs false;obtain⟨X,hX⟩:∃X,r.v=X:=⟨_,rfl⟩;have hf:X.fits (.agg 6)=true:=by rw[←hX];rfl
 obtain⟨res,aDr⟩:∃res,V.sl .leaf (frO r.vars) ((dN r (fU r) false).map V.str)=res:=⟨_,rfl⟩;rw[hX] at hB hS⊢;rw[aDr] at hS⊢;simp only[List.length_cons,List.length_nil,KQ,KR,List.replicate_succ,List.replicate_zero,List.cons_append,Qu,Kb];generalize hDC:aS.draw _ _ _=DC;refine aue hf ?_;rw[←hDC]
 obtain⟨I,hI⟩:∃I:(Nat→Bool)→St→Prop,∀D s',I D s'↔∃c2 c3 c4 c5 c6,s'.sl=[X, .ptr nx (.agg 6) 0 0,c2,c3,c4,c5,c6]∧h'.le s'.h∧aV s'.h s'.nx∧nx<s'.nx∧s'.h nx=some (.arr (.agg 6) [X])∧(D 0=true→c3=X)∧(D 1=true→c4=X)∧
  (D 2=true→∃n es c,c5= .map n∧s'.h n=some (.mp es c)∧gC es (fU r))∧(D 3=true→c6=res)∧(D 4=true→c2=res):=⟨_,fun _ _=>Iff.rfl⟩
 refine qM ⟨I,?_,?_,?_⟩
 ·exact(hI _ _).2 ⟨_,_,_,_,_,rfl,leo hd,dmo hd,Zw,by simp only[go_sem,reduceIte,KQ,KR,Qk,KU,reduceCtorEq,KV,KX],fun h=>(by cases h),fun h=>(by cases h),fun h=>(by cases h),fun h=>(by cases h),fun h=>(by cases h)⟩
 ·rintro D i o aAF ⟨sl,h1,nx1⟩ hi hDi aAv hcl hID;obtain⟨c2,c3,c4,c5,c6,q1,q2,q3,q4,q5,d0,d1,d2,d3,d4⟩:=(hI _ _).1 hID;dsimp only at q1 q2 q3 q4 q5 d2;subst q1;match i,hi with
  |0,hi=>
   cases hi;refine aue (e3 q5 hf q4) ?_;refine(hI _ _).2 ⟨_,_,_,_,_,rfl,q2,q3,q4,q5,fun _=>rfl,d1,d2,d3,d4⟩
  |1,hi=>
   cases hi;refine aue (e3 q5 hf q4) ?_;refine(hI _ _).2 ⟨_,_,_,_,_,rfl,q2,q3,q4,q5,d0,fun _=>rfl,d2,d3,d4⟩
  |2,hi=>
   cases hi;obtain rfl:=d1 (aAv 1 Zm);refine aU ((hB h1 nx1).dom.mono ?_);rintro v h2 nx2 aAV ⟨⟨n,es,c,rfl,w1,w2,w3,w4,w5⟩,hd2,_⟩;unfold bT;simp only[go_sem,reduceIte,KQ,KR,Qk,KU,reduceCtorEq,KV,KX];refine au ?_;refine(hI _ _).2 ⟨_,_,_,_,_,rfl,w5.le (hd.up (Nat.le_of_lt q4)) q2,hd2,Qi q4 aAV,(w5 nx q4).trans q5,d0,fun _=>rfl,fun _=>⟨n,es,c,rfl,w2,w3⟩,d3,d4⟩
  |3,hi=>
   cases hi;obtain rfl:=d0 (aAv 0 Zm);obtain⟨n,es,c,rfl,w2,w3⟩:=d2 (aAv 2 Zm);refine aJ (hS n es c h1 w2 w3) rfl (aH _) ?_;simp only[go_sem,reduceIte,KQ,KR,Qk,KU,reduceCtorEq,KV,KX];refine au ?_;refine(hI _ _).2 ⟨_,_,_,_,_,rfl,q2,q3,q4,q5,fun _=>rfl,d1,fun _=>⟨n,es,c,rfl,w2,w3⟩,fun _=>rfl,d4⟩
  |4,hi=>
   cases hi;obtain rfl:=d3 (aAv 3 Zm);refine au ?_;refine(hI _ _).2 ⟨_,_,_,_,_,rfl,q2,q3,q4,q5,d0,d1,d2,fun _=>rfl,fun _=>rfl⟩
  |n+5,hi=>cases hi
 rintro D ⟨sl,h1,nx1⟩ hD hID;obtain⟨c2,c3,c4,c5,c6,q1,q2,q3,q4,q5,d0,d1,d2,d3,d4⟩:=(hI _ _).1 hID;dsimp only at q1 q2;subst q1;obtain rfl:=d4 (hD 4 ZM);refine au ?_;exact aC h' q2 ⟨rfl,rfl⟩
end Go.Proofs.YtlhedpgobaellaaGreatDoor
namespace Go.Proofs.YtlhedpgobaellaaGreatDoor
open Go.RowKit Go.Sort Go.Shelf
def EN{α:Type}(P:Program)(gf:Nat)(caps:List V)(hb:Hp)(e:α→List V)(ok:List α→α→Prop)(fin:List α→Prop):Prop:=
 ∀(yn n0:Nat) (J:Hp→List α→Hp→Nat→Prop) (D:Hp→Nat→Prop),
  (∀F i h nx,J F i h nx→F.le h)→(∀F i h nx nx',J F i h nx→nx≤nx'→J F i h nx')→
  (∀F i h nx b,J F i h nx→aV h nx→n0≤nx→J (F.set nx b) i (h.set nx b) (nx+1))→
  (∀F i h nx n b b',J F i h nx→n0≤n→F n=some b→J (F.set n b') i (h.set n b') nx)→(∀h nx nx',D h nx→nx≤nx'→D h nx')→
  (∀F i x,ok i x→∀h nx,J F i h nx→aV h nx→n0≤nx→dF P yn (e x) h nx fun v h' nx'=>(v= .bool true∧J F (i++[x]) h' nx')∨(v= .bool false∧D h' nx'))→
  ∀F h,J F [] h n0→hb.has F→aV h n0→aR P gf (.yld yn::caps) h n0 fun _ h' nx'=>(∃F' i,F.le F'∧fin i∧J F' i h' nx')∨D h' nx'
theorem xT{α:Type}{e0:α→List V}{ok:List α→α→Prop}{fin:List α→Prop}{P:Program}{g:aK}{ps:List Nat}{asg b:aS}{Q:bJ→St→Prop}{s:St}{gf:Nat}{caps:List V}{hb:Hp}(hit:EN P gf caps hb e0 ok fin)(hg:g.ev s.sl= .fn (.func gf) [] caps)
 (hlen:∀x,(e0 x).length=ps.length) (hd:aV s.h s.nx) (I:Hp→List α→Hp→Nat→Prop) (E:bJ→Hp→Nat→Prop)
 (hlI:∀F i h nx,I F i h nx→F.le h) (hnI:∀F i h nx nx',I F i h nx→nx≤nx'→I F i h nx') (hsI:∀F i h nx b,I F i h nx→F s.nx=none→I F i (h.set s.nx b) nx)
 (haI:∀F i h nx b,I F i h nx→aV h nx→s.nx<nx→I (F.set nx b) i (h.set nx b) (nx+1)) (huI:∀F i h nx n b b',I F i h nx→s.nx<n→F n=some b→I (F.set n b') i (h.set n b') nx)
 (hnE:∀e h nx nx',E e h nx→nx≤nx'→E e h nx') (hsE:∀e h nx b,E e h nx→E e (h.set s.nx b) nx)
 (F0:Hp) (h0:I F0 [] s.h (s.nx+1)) (hb0:hb.has F0) (hF0:F0 s.nx=none)
 (aBn:∀F i x,ok i x→∀h nx X,I F i h nx→F s.nx=none→s.nx<nx→h s.nx=some X→aV h nx→
   lwp P asg (Di s.nx X fun s1=>∀X',lwp P b (lK s.nx X' (I F (i++[x])) E) ⟨s1.sl,s1.h.set s.nx X',s1.nx⟩) ⟨aAQ s.sl ps (e0 x),h,nx⟩)
 (aCJ:∀F i,fin i→F0.le F→∀h nx,I F i h nx→s.nx<nx→aV h nx→Q .normal ⟨s.sl,h.del s.nx,nx⟩)
 (hex:∀e h nx,E e h nx→s.nx<nx→aV h nx→(e= .ret∨∃id,e= .exit id)→Q e ⟨s.sl,h.del s.nx,nx⟩):lwp P (.range g ps asg b) Q s:=by
 simp only[lwp,hg];intro rcd U hpl hY;have aAP:∀(h:Hp) (b:Blk),(h.set s.nx b) s.nx=some b:=fun h b=>by simp[Ka]
 refine((hit s.nx (s.nx+1) (fun F i h nx=>I F i h nx∧h s.nx=some (.obj (rcd .ready none) U)∧F s.nx=none)
  (fun h nx=>(h s.nx=some (.obj (rcd .done (some .ret)) U)∧E .ret h nx)∨∃id,h s.nx=some (.obj (rcd .done (some (.exit id))) U)∧E (.exit id) h nx)
  (fun F i h nx hj=>hlI F i h nx hj.1) (fun F i h nx nx' hj hle=>⟨hnI F i h nx nx' hj.1 hle,hj.2⟩)
  (fun F i h nx b hj hdm hle=>⟨haI F i h nx b hj.1 hdm or,by simp only[Ka];rw[if_neg or];exact hj.2.1,by simp only[Ka];rw[if_neg or];exact hj.2.2⟩)
  (fun F i h nx n b b' hj hle hn=>⟨huI F i h nx n b b' hj.1 or hn,by simp only[Ka];rw[if_neg or];exact hj.2.1,by simp only[Ka];rw[if_neg or];exact hj.2.2⟩)
  (fun h nx nx' hD hle=>hD.imp (fun hD=>⟨hD.1,hnE _ _ _ _ hD.2 hle⟩) (fun⟨id,hD⟩=>⟨id,hD.1,hnE _ _ _ _ hD.2 hle⟩)) ?_ F0 _ ⟨hsI _ _ _ _ _ h0 hF0,aAP _ _,hF0⟩ hb0 ?_).dom).mono ?_
 ·rintro F i x hi h nx ⟨hI,hr,hFn⟩ aBJ aCI;refine hY (e0 x) h nx _ (hlen _) hr ?_;refine lS ?_ (aBn F i x hi h nx _ hI hFn (aBJ _ _ hr) hr aBJ);intro e s1 hq;cases e with
  |exit id=>exact hq.elim
  |ret=>exact hq.elim
  |normal=>
   refine⟨hq.1,lS ?_ (hq.2 (.obj (rcd .busy none) U))⟩;intro e s2 hq2;cases e with
   |normal=>exact⟨hq2.1, .inl ⟨rfl,hsI _ _ _ _ _ hq2.2 hFn,aAP _ _,hFn⟩⟩
   |ret=>exact⟨hq2.1, .inr ⟨rfl, .inl ⟨aAP _ _,hsE _ _ _ _ hq2.2⟩⟩⟩
   |exit id=>exact⟨hq2.1, .inr ⟨rfl, .inr ⟨id,aAP _ _,hsE _ _ _ _ hq2.2⟩⟩⟩
 ·intro m b hm;unfold Ka at hm;split at hm
  ·omega
  have:=hd m b hm;omega
 rintro v h' nx' _ ⟨(⟨F',i,hFF,aAh,hI,hr,_⟩|(⟨hr,hE⟩|⟨id,hr,hE⟩)),aBJ,hle⟩
 ·exact .inl ⟨hr,aCJ F' i aAh hFF _ _ hI or aBJ⟩
 ·exact .inr (.inl ⟨hr,hex _ _ _ hE or aBJ (.inl rfl)⟩)
 exact .inr (.inr ⟨id,hr,hex _ _ _ hE or aBJ (.inr ⟨id,rfl⟩)⟩)
section
variable{P:Program}{k:Sh}{α:Type}(e:α→V)(hfit:∀x,(e x).fits k=true)
include hfit
end
section
variable{P:Program}{α:Type}(e:α→V)
end
end Go.Proofs.YtlhedpgobaellaaGreatDoor
namespace Go.Proofs.YtlhedpgobaellaaGreatDoor
open Go.RowKit Go.Shelf
section
variable{P:Program}{Q:St→Prop}{s:St}{dst:Option Nat}{r:List aA}{x:aK}
theorem Cd{n c:Nat}{es:List ME}(hx:x.ev s.sl= .map n)(hn:s.h n=some (.mp es c))(h:aZ P r Q ⟨bI s.sl dst (.ptr s.nx .leaf 0 0),s.h.set s.nx (.mit n c [] c),s.nx+1⟩):aZ P (⟨dst,none, .mp (.rng x)⟩::r) Q s:=by
 unfold aZ;simp only[LOp.run,LOp.sem,MOp.sem,hx,hn];exact h
theorem Ce{it m c since last:Nat}{seen:List Nat}{es:List ME}(hx:x.ev s.sl= .ptr it .leaf 0 0)(hi:s.h it=some (.mit m since seen last))(hm:s.h m=some (.mp es c))(hb:∀e∈es,e.b<since)(hl:since≤last)
 (h1:∀e∈es,e.b∉seen→aZ P r Q ⟨bI s.sl dst (.tup [.bool true,e.k,e.v]),s.h.set it (.mit m since (seen++[e.b]) c),s.nx+1⟩) (h2:(∀e∈es,e.b∈seen)→aZ P r Q ⟨bI s.sl dst (.tup [.bool false]),s.h,s.nx+1⟩):aZ P (⟨dst,none, .mp (.nxt x)⟩::r) Q s:=by
 unfold aZ;simp only[LOp.run,LOp.sem,MOp.sem,hx,hi,hm];exact⟨hb,hl,h1,h2⟩
theorem Cf{it m c since:Nat}{seen:List Nat}{es:List ME}(hx:x.ev s.sl= .ptr it .leaf 0 0)(hi:s.h it=some (.mit m since seen c))(hm:s.h m=some (.mp es c)){b:Nat}{e:ME}(hs:seen.getLast?=some b)(he:es.find? (fun e=>e.b==b)=some e)
 (h:aZ P r Q ⟨bI s.sl dst (.tup [e.k,e.v]),s.h,s.nx+1⟩):aZ P (⟨dst,none, .mp (.key x)⟩::r) Q s:=by
 unfold aZ;simp only[LOp.run,LOp.sem,MOp.sem,hx,hi,hm];exact⟨trivial,b,e,hs,he,h⟩
end
section
variable{β:Type}(bn:β→Nat)
theorem Fo{l:List β}(hn:(l.map bn).Nodup){x y:β}(hx:x∈l)(hy:y∈l)(h:bn x=bn y):x=y:=by
 induction l with
 |nil=>cases hx
 |cons a l ih=>
  rw[KS,KJ] at hn;rcases Ks.1 hx with e1|h1
  ·rcases Ks.1 hy with e2|h2
   ·rw[e1,e2]
   exact absurd (KA.2 ⟨y,h2,by rw[←h,e1]⟩) hn.1
  rcases Ks.1 hy with e2|h2
  ·exact absurd (KA.2 ⟨x,h1,by rw[h,e2]⟩) hn.1
  exact ih hn.2 h1 h2
theorem oC{l:List β}(hn:(l.map bn).Nodup):l.Nodup:=by
 refine(List.pairwise_map.1 hn).imp ?_;rintro a b h rfl;exact h rfl
theorem DQ{l js:List β}(hl:(l.map bn).Nodup)(hj:(js.map bn).Nodup)(hs:∀y∈js,y∈l)(h:∀y∈l,bn y∈js.map bn):js.Perm l:=by
 rw[List.perm_ext_iff_of_nodup (oC bn hj) (oC bn hl)];intro y;refine⟨hs y,fun hy=>?_⟩;obtain⟨z,hz,hzy⟩:=KA.1 (h y hy);rw[Fo bn hl hy (hs z hz) hzy.symm];exact hz
theorem tN:∀{js l:List β},js.Nodup→(∀y∈js,y∈l)→js.length≤l.length
 | [],_,_,_=>KG _
 |y::js,l,hn,hs=>by
  obtain⟨a,b,rfl⟩:=List.append_of_mem (hs y (Qg ..));have hn:=KJ.1 hn;have:=tN (l:=a++b) hn.2 (fun z hz=>by
   have:=hs z (Qb _ hz);rw[Kj,Ks] at this;rcases this with h|h|h
   ·exact Kj.2 (.inl h)
   ·subst h;exact absurd hz hn.1
   exact Kj.2 (.inr h))
  simp only[Ku,jL] at this⊢;omega
theorem Ar{l js:List β}(hj:(js.map bn).Nodup)(hs:∀y∈js,y∈l){y:β}(hy:y∈l)(hn:bn y∉js.map bn):js.length<l.length:=by
 have:=tN (js:=y::js) (l:=l) (KJ.2 ⟨fun h=>hn (KA.2 ⟨y,h,rfl⟩),oC bn hj⟩) (fun z hz=>by
  rcases Ks.1 hz with rfl|hz
  ·exact hy
  exact hs z hz)
 simp only[jL] at this;omega
theorem BY{js:List β}(hj:(js.map bn).Nodup){y:β}(hn:bn y∉js.map bn):((js++[y]).map bn).Nodup:=by
 rw[KY,List.nodup_append];refine⟨hj,Zm,?_⟩;intro a ha b hb hab;simp only[KS,Qz,KM] at hb;subst hab;subst hb;exact hn ha
end
theorem Eg{β:Type}(me:β→ME){l:List β}(hn:(l.map fun y=>(me y).b).Nodup){y:β}(hy:y∈l):(l.map me).find? (fun e=>e.b==(me y).b)=some (me y):=by
 induction l with
 |nil=>cases hy
 |cons a l ih=>
  rw[KS,KJ] at hn;rw[KS,List.find?_cons];rcases Ks.1 hy with rfl|hy
  ·simp
  have:((me a).b==(me y).b)=false:=by
   simp only[beq_eq_false_iff_ne,ne_eq];exact fun h=>hn.1 (KA.2 ⟨y,hy,h.symm⟩)
  rw[this];exact ih hn.2 hy
namespace LB
end LB
attribute [local irreducible] Kw
end Go.Proofs.YtlhedpgobaellaaGreatDoor
namespace Go.Proofs.YtlhedpgobaellaaGreatDoor
open Go.RowKit Go.Sort
attribute [local irreducible] Kw
theorem bx{α:Type}(p:α→Bool)(l:List α):bG p l=-1∨∃i:Nat,bG p l=i∧i<l.length:=by
 unfold bG;cases h:l.findIdx? p with
 |none=>exact .inl rfl
 |some i=>
  rw[KE] at h;exact .inr ⟨i,rfl,h.1⟩
theorem zU(r:Ru)(s:List ByteArray)(left:List Nat):jY r s left=-1∨∃i:Nat,jY r s left=i∧i<left.length:=by
 unfold jY;split
 ·rename_i h;rcases bx (fun k=>iL s (r.b.getD k default)) left with e|e
  ·omega
  exact .inr e
 exact bx _ _
def iD(r:Ru):Nat→List ByteArray→List Nat→List (Nat×List ByteArray)
 |0,_,_=>[]
 |n+1,s,left=>if jY r s left<0 then [] else
  (left.getD (jY r s left).toNat 0,dN r (s++(r.b.getD (left.getD (jY r s left).toNat 0) default).vars) true)::iD r n (s++(r.b.getD (left.getD (jY r s left).toNat 0) default).vars) (left.eraseIdx (jY r s left).toNat)
def rW(r:Ru):List (Nat×List ByteArray):=iD r r.b.length [] (Kq r.b.length)
def iS(r:Ru):List Nat:=(rW r).map KZ
theorem ox{r:Ru}{s:List ByteArray}{left:List Nat}(h:jY r s left<0):iD r left.length s left=[]:=by
 cases e:left.length with
 |zero=>rfl
 |succ n=>unfold iD;rw[if_pos h]
theorem ov{r:Ru}{s:List ByteArray}{left:List Nat}{i:Nat}(h:jY r s left=i)(hi:i<left.length):iD r left.length s left=(left.getD i 0,dN r (s++(r.b.getD (left.getD i 0) default).vars) true)::iD r (left.eraseIdx i).length (s++(r.b.getD (left.getD i 0) default).vars) (left.eraseIdx i):=by
 obtain⟨n,hn⟩:∃n,left.length=n+1:=⟨left.length-1,or⟩;have e:(left.eraseIdx i).length=n:=by rw[KN hi];omega
 rw[hn,e];conv=>lhs;unfold iD
 rw[h,if_neg or,jG]
def Bx(r:Ru)(p:Nat×List ByteArray):List V:=[.int .i64 p.1, .sl .leaf (frO r.vars) (p.2.map V.str)]
theorem tx(r:Ru)(hr:dW r=true):EN Tryz.prog 187 [.ept (.agg 6) [r.v] 0 0] Hp.none (Bx r) (fun i x=>∃l,rW r=i++x::l) (fun i=>i=rW r):=by
 intro yn n0 J D hJF hJn hJa hJu hDn hy F0 h0 hj0 _ aEU;refine aB L.aWj fun hd=>?_;obtain⟨b1,b2,b3⟩:=dG hr;refine ZK ?_;refine aue (e3 Ru.v.eq_1 trs.eq_1 (@jK Li V)) ?_;refine pN ?_;refine Zn ?_;refine aue (e3 Ru.v.eq_1 trs.eq_1 (@jK Li V)) ?_
 --the places
 have hj1:=hJa F0 [] h0 n0 (.mp [] 0) hj0 aEU (Kz _);have hlr:(Kq r.b.length).length=r.b.length:=Qm
 refine aP (fun q:Nat×V=>aD 50 0 [(0, .yld yn),(1, .ept (.agg 6) [r.v] 0 0),(3, .map n0),(4,q.2),(10, .sl (.agg 17) r.o (r.b.map Li.v)),(11, .int .i64 r.b.length),(12, .int .i64 q.1)])
  (fun q hp nx1=>q.1≤r.b.length∧n0+1≤nx1∧aV hp nx1∧Kg (n0+1) (h0.set n0 (.mp [] 0)) hp∧OwL hp (n0+1) .leaf ((Kq q.1).map kV) q.2)
  (fun q=>r.b.length-q.1) (0, .sl .leaf .nil []) ⟨KG _,Zw,dmo aEU,by exact kep Hp.same.aA0, .inl ⟨rfl,rfl⟩⟩ (by simp only[WkL,aD,jH,jI,jJ,jK,Ru.v.eq_1,go_sem,reduceIte,jA,jB,jC,jD,reduceCtorEq,jE,jF]) ?_
 rintro⟨i,v⟩ hp nx1 ⟨hi,hnx,hdm,hsm,aAy⟩;generalize hQ:bB _ _ _ _ _=Q0;dsimp only at hi aAy;refine Zk ?_;rcases KK i r.b.length with hlt|hge
 ·have hc:decide ((i:Int)<(r.b.length:Int))=true:=dct;have hw:IntKind.i64.wrap ((i:Int)+1)=((i+1:Nat):Int):=wrp;have hrs:(Kq (i+1)).map kV=(Kq i).map kV++[.int .i64 i]:=by rw[List.range_succ,KY];rfl
  rcases aAy with⟨q1,rfl⟩|⟨q1,id,q2,rfl,q3⟩
  ·have hi0:i=0:=by
    have:=congrArg QB q1;simpa using this
   subst hi0;refine aun (e2 hc hw) ?_;refine eY rfl rfl Zm (by simp only[jL,jM];omega) ?_;refine Zn ?_;refine aue hw ?_;rw[←hQ];refine aG (0+1, .rs (nx1+1) .leaf 0 1) Zw ⟨hlt,or,dmo hdm,kep hsm, .inr ⟨Zm,nx1+1,or,Zm,by rw[hrs];simp only[go_sem,reduceIte,jA,jB,jC,jD,reduceCtorEq,jE,jF];rfl⟩⟩ (by simp only[WkL,aD,jH,jI,jJ,go_sem,reduceIte,jA,jB,jC,jD,reduceCtorEq,jE,jF])
  have hid:id<nx1:=hdm _ _ q3;have hlm:(Kq i).length=i:=Qm;have htk:((Kq i).map kV).take i=(Kq i).map kV:=Ky Zm;simp only[jK,hlm];refine aue (e7 hc hw q3 hid hlm htk b2) ?_;rw[←hQ];refine aG (i+1, .rs (nx1+1) .leaf 0 (i+1)) Zw ⟨hlt,or,dmo hdm,kep hsm, .inr ⟨Zm,nx1+1,or,Zm,by rw[hrs];simp only[go_sem,reduceIte,jA,jB,jC,jD,reduceCtorEq,jE,jF]⟩⟩ (by simp only[WkL,aD,jH,jI,jJ,go_sem,reduceIte,jA,jB,jC,jD,reduceCtorEq,jE,jF])
 have hc:decide ((i:Int)<(r.b.length:Int))=false:=dcf;have hib:i=r.b.length:=or;subst hib;refine aue hc ?_;rw[←hQ];refine au ?_;have hle1:∀{m b},(h0.set n0 (.mp [] 0)) m=some b→hp m=some b:=fun{m b} e=>by
  have:m<n0+1:=(aV.aOS (aEU.up (QC _)) (Qq _) _) m b e;rw[hsm m this];exact e
 have hpl:∃F hj,F0.le F∧J F [] hj nx1∧hj.le hp∧F n0=some (.mp [] 0)∧PlL F (n0+1) (Kq r.b.length) v:=by
  have hF1:F0.le (F0.set n0 (.mp [] 0)):=gH (Ke _) (aV.none (aEU.le (hJF _ _ _ _ hj0)) (Kz _)) _;rcases aAy with⟨q1,rfl⟩|⟨q1,id,q2,rfl,q3⟩
  ·exact⟨_,_,hF1,hJn _ _ _ _ _ hj1 hnx,fun m b e=>hle1 e,by simp[Ka], .inl ⟨by simpa using q1,rfl⟩⟩
  have hid:id<nx1:=hdm _ _ q3;have hd1:aV (h0.set n0 (.mp [] 0)) (n0+1):=aV.aOS (aEU.up (QC _)) (Qq _) _;have hj2:=hJa _ _ _ _ (.arr .leaf ((Kq r.b.length).map kV)) (hJn _ _ _ _ _ hj1 q2) (hd1.up q2) or;have hFd:aV (F0.set n0 (.mp [] 0)) (n0+1):=hd1.le (hJF _ _ _ _ hj1);refine⟨_,_,Ki hF1 (gH (Ke _) (aV.none hFd q2) _),hJn _ _ _ _ _ hj2 or,fun m b e=>?_,?_, .inr ⟨id,[],q2,Zm,by simp[Ka]⟩⟩
  ·simp only[Ka] at e;split at e
   ·rename_i hm;rw[hm,q3];exact e
   exact hle1 e
  simp only[Ka];rw[if_neg or];simp
 obtain⟨F,hj,p1,p2,p3,p4,p5⟩:=hpl
 refine aP (fun q:List (Nat×List ByteArray)×List ByteArray×List Nat×V=>aD 50 0 [(0, .yld yn),(1, .ept (.agg 6) [.agg [.str r.h.r, .sl (.agg 4) r.h.o (r.h.l.map Tr.v), .int .i64 r.g, .int .i64 r.c, .sl (.agg 17) r.o (r.b.map Li.v), .int .i64 r.at_]] 0 0),(3, .map n0),(4,q.2.2.2)])
  (fun q hp nx1=>aV hp nx1∧n0+1≤nx1∧(∃F hj es c,F0.le F∧J F q.1 hj nx1∧hj.le hp∧F n0=some (.mp es c)∧gC es q.2.1∧PlL F (n0+1) q.2.2.1 q.2.2.2)∧rW r=q.1++iD r q.2.2.1.length q.2.1 q.2.2.1∧(∀k∈q.2.2.1,k<r.b.length)∧q.2.1.length+q.2.2.1.length*2097158≤8*2097158)
  (fun q=>q.2.2.1.length) ([],[],Kq r.b.length,v) ⟨hdm,hnx,⟨F,hj,[],0,p1,p2,p3,p4,ib,p5⟩,by simp[rW],fun k hk=>by simpa using hk,by dsimp only;rw[hlr];simp only[jM];omega⟩ (by simp only[WkL,aD,jH,jI,jJ,Ru.v.eq_1,go_sem,reduceIte,jA,jB,jC,jD,reduceCtorEq,jE,jF]) ?_
 rintro⟨done,s,left,v⟩ hp nx1 ⟨hdm,hnx,⟨F,hj,es,c,p1,p2,p3,p4,p5,p6⟩,hst,hlt,hsl⟩;generalize hQ:bB _ _ _ _ _=Q0;dsimp only at p2 p5 p6 hst hlt hsl;refine Zk ?_;have hFp:F.le hp:=Ki (hJF _ _ _ _ p2) p3;have hm1:hp n0=some (.mp es c):=hFp _ _ p4;have hll:left.length≤8:=or;have C:=ua r hr s or n0 es c hp hm1 p5 left hlt or (n0+1) v (p6.le hFp);simp only[Ru.v] at C;refine aue trs.eq_1 ?_;refine aJ C rfl (aH _) ?_;refine Zn ?_;rcases zU r s left with hi|⟨i,hi,hil⟩
 ·rw[hi];have g1:decide ((-1:Int)<0)=true:=rfl;refine aue g1 ?_;rw[←hQ];refine au ?_;refine⟨hj,p3, .inl ⟨F,done,p1,?_,p2⟩⟩;rw[hst,ox or,Qw]
 rw[hi];have g1:decide ((i:Int)<0)=false:=dcf;rcases p6 with⟨rfl,_⟩|⟨id,zs,k1,rfl,k3⟩
 ·cases hil
 have aOz:=hFp _ _ k3;have aZD:id<nx1:=hdm _ _ aOz;have aFB:left.getD i 0=left[i]:=by rw[Kc,Kf hil];rfl
 have hkb:=hlt left[i] (Km _);have hg:(left.map kV++zs).getD i (.tup [])= .int .i64 left[i]:=by rw[Kc,Ko (by simpa using hil),←Kc];exact aO kV left i hil
 have hap:(left.map kV++zs).length=left.length+zs.length:=Zm;have hlz:i<left.length+zs.length:=or;have hw:IntKind.i64.wrap ((i:Int)+1)=((i+1:Nat):Int):=wrp;refine aue (e8 g1 aOz hg hap hlz hil hw (Qj i)) ?_;rw[show left.length=(left.map kV).length by simp];refine aU ((fk id (left.map kV) zs i hp nx1 aOz (by simpa using hil)).dom.mono ?_);rintro v2 h2 nx2 aAV ⟨⟨rfl,rfl⟩,hd2,_⟩;unfold bT;refine Zn ?_;have hg2:=aO Li.v r.b left[i] hkb;have hD2:r.b.getD left[i] default=r.b[left[i]]:=by rw[Kc,Kf hkb];rfl
 have hrl:=b3 r.b[left[i]] (Km _);have hs2:=ov hi hil;rw[aFB,hD2] at hs2;generalize r.b[left[i]]=l at hg2 hrl hs2;have hvl:=sU hrl;have hf:=Li.aAD l;obtain⟨o1,ho1⟩:=fH .leaf (l.vars.map V.str);have C1:∀h:Hp,aL Tryz.prog 75 [l.v] h (.sl .leaf o1 (l.vars.map V.str)):=fun h=>ho1▸yN l hrl h;obtain⟨X,hX⟩:∃X,l.v=X:=⟨_,rfl⟩;rw[hX] at hg2 hf C1;generalize hH:Ka hp id _=H;have aWR:H id=some (.arr .leaf ((left.map kV).take i++(left.map kV).drop (i+1)++(zin::zs))):=by rw[←hH];simp[Ka]
 have hHo:∀m,m≠id→H m=hp m:=fun m hm=>by rw[←hH];simp only[Ka];rw[if_neg hm]
 rw[hH] at hd2;have hHn:H n0=some (.mp es c):=by rw[hHo n0 or];exact hm1
 refine aue (e5 hg2 hf hkb (@jK Li V) jG) ?_;refine aU ((rX o1 l.vars s or n0 es c H nx2 hHn p5).dom.mono ?_);rintro v3 h3 nx3 aCq ⟨⟨es3,c3,w1,w2,w3⟩,hd3,_⟩;unfold bT;refine Zn ?_;have S:=zI r hr (s++l.vars) n0 es3 c3 h3 w1 w2 true;simp only[Ru.v] at S;refine aue trs.eq_1 ?_;refine aJ S rfl (aH _) ?_;refine Zn ?_;have er:(left.map kV).take i++(left.map kV).drop (i+1)=(left.eraseIdx i).map kV:=by rw[List.eraseIdx_eq_take_drop_succ,KY,List.map_take,List.map_drop]
 have el:(left.eraseIdx i).length=left.length-1:=KN hil;have hjF:=hJu _ _ _ _ id _ (.arr .leaf ((left.eraseIdx i).map kV++(zin::zs))) p2 or k3;have aWD:=hJu _ _ _ _ n0 (.mp es c) (.mp es3 c3) hjF (Kz _) (by simp only[Ka];rw[if_neg or];exact p4);have aWC:=hJn _ _ _ _ nx3 aWD or;have hj3:((hj.set id (.arr .leaf ((left.eraseIdx i).map kV++(zin::zs)))).set n0 (.mp es3 c3)).le h3:=fun m b e=>by
  simp only[Ka] at e;split at e
  ·rename_i hm;rw[hm,w1];exact e
  rename_i hm;split at e
  ·rename_i hm2;rw[hm2,w3 id or or,aWR,er];exact e
  rename_i hm2;have:=p3 m b e;rw[w3 m (Qi (hdm _ _ this) aAV) hm,hHo m hm2];exact this
 have aWS:F0.le ((F.set id (.arr .leaf ((left.eraseIdx i).map kV++(zin::zs)))).set n0 (.mp es3 c3)):=fun m b e=>by
  have hm:m<n0:=aEU m b (hJF _ _ _ _ hj0 m b e);simp only[Ka];rw[if_neg or,if_neg or];exact p1 m b e
 have Y:=hy _ _ (left[i],dN r (s++l.vars) true) ⟨_,by rw[hst,hs2]⟩ _ nx3 aWC (hd3.le hj3) or;unfold Bx at Y;refine au ?_;refine lU rfl ((Y.weaken hj3).dom.mono ?_);rintro v4 h4 nx4 aDk ⟨hv,hd4,_⟩;rcases hv with⟨rfl,hv⟩|⟨rfl,hv⟩
 ·unfold bT;refine Zn ?_;refine au ?_;rw[←hQ];refine aG (done++[(left[i],dN r (s++l.vars) true)],s++l.vars,left.eraseIdx i, .rs id .leaf 0 ((left.map kV).length-1)) Zw ⟨hd4,or,⟨_,h4,es3,c3,aWS,hv,Ke _,by simp[Ka],w2, .inr ⟨id,zin::zs,k1,by rw[el,jK],by simp only[Ka];rw[if_neg or];simp⟩⟩,?_,fun k hk=>hlt k (KT hk),?_⟩ (by simp only[WkL,aD,jH,jI,jJ,jK,go_sem,reduceIte,jA,jB,jC,jD,reduceCtorEq,jE,jF])
  ·dsimp only;rw[hst,hs2];simp
  dsimp only;rw[el,Ku];have:left.length=(left.length-1)+1:=or;rw[this,KF] at hsl;omega
 unfold bT;refine Zn ?_;refine au ?_;rw[←hQ];refine au ?_;exact⟨h4,Ke _, .inr hv⟩
theorem tw(r:Ru)(h:Hp):aL Tryz.prog 122 [r.v] h (.fn (.func 187) [] [.ept (.agg 6) [r.v] 0 0]):=by
 have hf:r.v.fits (.agg 6)=true:=rfl;refine tK (fun L hL=>by simpa [V.names,bQ] using hL) fun h' nx hh=>aB L.aXY fun hd=>?_;obtain⟨ev,hev⟩:∃ev,r.v=ev:=⟨_,rfl⟩;rw[hev] at hf⊢;refine ZK ?_;refine bK ?_;generalize hR:mT _ _=R;refine aue hf ?_;rw[←hR];refine dO (lE (t:=1) (n:=nx) (k:= .agg 6) (i:=0) (o:=0) (es:=[ev]) rfl (by simp only[go_sem,reduceIte,jA,jB,jC,jD,reduceCtorEq,jE,jF])) ?_;refine Zn ?_;refine au ?_;refine aC h' (fun m b e=>?_) ⟨rfl,rfl⟩;have:=hd _ _ e;simp only[Hp.del,Ka];rw[if_neg or,if_neg or];exact e
theorem rV(r:Ru):∀(n:Nat) (s:List ByteArray) (left:List Nat),(iD r n s left).length≤n
 |0,_,_=>Kz _
 |n+1,s,left=>by
  unfold iD;split
  ·exact KG _
  have:=rV r n (s++(r.b.getD (left.getD (jY r s left).toNat 0) default).vars) (left.eraseIdx (jY r s left).toNat);simp only[jL];omega
theorem ur(r:Ru)(hr:dW r=true)(h:Hp):aL Tryz.prog 72 [r.v] h (lst .leaf ((iS r).map kV)):=by
 refine pl (fun L=>cK (f:=kV) (fun _=>trivial) _) fun h' nx hh=>aB L.aX5 fun hd=>?_;have hd:aV h' nx:=hd;have hit:=tx r hr;have C1:=fun h=>tw r h;have hb8:=(dG hr).2.1;have hsl:=rV r r.b.length [] (Kq r.b.length);obtain⟨X,hX⟩:∃X,r.v=X:=⟨_,rfl⟩;have hf:X.fits (.agg 6)=true:=by rw[←hX];rfl
 rw[hX] at hit C1⊢;refine ZK ?_;refine aue hf ?_;have aAc:∀n,nx≤n→h' n=none:=fun n hn=>aV.none hd hn;obtain⟨I,hI⟩:∃I:Hp→List (Nat×List ByteArray)→Hp→Nat→Prop,∀F i h nx1,I F i h nx1↔(h'.le F∧F.le h∧F (nx+1)=none∧(∃acc,h (nx+1)=some (.arr .leaf [acc])∧((i=[]∧acc= .sl .leaf .nil [])∨(i≠ []∧∃id,nx≤id∧id≠nx+1∧id≠nx+2∧F id=none∧acc= .rs id .leaf 0 i.length∧h id=some (.arr .leaf ((i.map KZ).map kV)))))):=⟨_,fun _ _ _ _=>Iff.rfl⟩;have hsub:∀{F h:Hp} (n:Nat) (b:Blk),F.le h→(F.set n b).le (h.set n b):=fun n b hF m c hm=>by
  unfold Ka at hm⊢;split
  ·rename_i e1;rw[if_pos e1] at hm;exact hm
  rename_i e1;rw[if_neg e1] at hm;exact hF m c hm
 refine xT hit rfl (fun x=>rfl) (by exact dmo hd) I (fun _ _ _=>False) ?_ ?_ ?_ ?_ ?_ (fun _ _ _ _ h=>h.elim) (fun _ _ _ _ h=>h.elim) h' ?_ (bA _) (aAc _ Zm) ?_ ?_ (fun _ _ _ h=>h.elim)
 ·exact fun F i h nx1 hi=>((hI _ _ _ _).1 hi).2.1
 ·exact fun F i h nx1 nx2 hi _=>(hI _ _ _ _).2 ((hI _ _ _ _).1 hi)
 ·intro F i h nx1 b hi hFn;obtain⟨hle,hFh,hF0,acc,h1,h2⟩:=(hI _ _ _ _).1 hi;refine(hI _ _ _ _).2 ⟨hle,gH hFh hFn b,hF0,acc,?_,?_⟩
  ·simp only[Kd];rw[if_neg or];exact h1
  rcases h2 with h2|⟨hi,id,h3,h4,h5,hFi,h6,h7⟩
  ·exact .inl h2
  refine .inr ⟨hi,id,h3,h4,h5,hFi,h6,?_⟩;simp only[Kd];rw[if_neg h5];exact h7
 ·intro F i h nx1 b hi hdm hlt;obtain⟨hle,hFh,hF0,acc,h1,h2⟩:=(hI _ _ _ _).1 hi;simp only at hlt;have hFd:=hdm.le hFh;refine(hI _ _ _ _).2 ⟨Ki hle (gH (Ke _) (aV.none hFd (Kz _)) b),hsub _ _ hFh,?_,acc,?_,?_⟩
  ·simp only[Kd];rw[if_neg or];exact hF0
  ·simp only[Kd];rw[if_neg or];exact h1
  rcases h2 with h2|⟨hi,id,h3,h4,h5,hFi,h6,h7⟩
  ·exact .inl h2
  have hid:id<nx1:=hdm _ _ h7;refine .inr ⟨hi,id,h3,h4,h5,?_,h6,?_⟩
  ·simp only[Kd];rw[if_neg or];exact hFi
  simp only[Kd];rw[if_neg or];exact h7
 ·intro F i h nx1 n b b' hi hlt hn;obtain⟨hle,hFh,hF0,acc,h1,h2⟩:=(hI _ _ _ _).1 hi;simp only at hlt;refine(hI _ _ _ _).2 ⟨gH hle (aAc _ or) b',hsub _ _ hFh,?_,acc,?_,?_⟩
  ·simp only[Kd];rw[if_neg or];exact hF0
  ·simp only[Kd];rw[if_neg or];exact h1
  rcases h2 with h2|⟨hi,id,h3,h4,h5,hFi,h6,h7⟩
  ·exact .inl h2
  have hne:id≠n:=fun e=>by rw[e,hn] at hFi;cases hFi
  refine .inr ⟨hi,id,h3,h4,h5,?_,h6,?_⟩
  ·simp only[Kd];rw[if_neg hne];exact hFi
  simp only[Kd];rw[if_neg hne];exact h7
 ·exact(hI _ _ _ _).2 ⟨Ke _,leo hd,aAc _ or, .sl .leaf .nil [],by simp[Kd], .inl ⟨rfl,rfl⟩⟩
 ·rintro F i ⟨k,ss⟩ ⟨l,hl⟩ h nx1 Y hii hFn hnx hY hdm;obtain⟨aCI,hFh,hF0,acc,h1,h2⟩:=(hI _ _ _ _).1 hii;simp only at hnx hY hFn;have hFd:=hdm.le hFh;have hil:i.length≤8:=by
   have:=congrArg QB hl;unfold rW at this;simp only[Ku,jL] at this;omega
  have aOI:nx+1<nx1:=or;have e7:(nx+1=nx1+1)=False:=fls;have e8:(nx+2=nx1+1)=False:=fls;have e9:(nx+2=nx+1)=False:=fls;have e11:(nx+2=nx1)=False:=fls;simp only[aAQ,Bx,List.set_cons_succ,List.set_cons_zero];refine au ?_;refine kH (by simp only[go_sem,reduceIte,jA,jB,jC,jD,reduceCtorEq,jE,jF];exact hY) fun Y'=>?_;refine Zn ?_;refine bF (bS ?_);have hm:(((i++[(k,ss)]).map KZ).map kV)=(i.map KZ).map kV++[.int .i64 k]:=by simp[kV]
  have hone:∀(h'':Hp) (nx2 id:Nat),F.le h''→nx1≤id→h'' (nx+1)=some (.arr .leaf [.rs id .leaf 0 (i.length+1)])→h'' (nx+2)=some Y'→h'' id=some (.arr .leaf ((i.map KZ).map kV++[.int .i64 k]))→∀sl,eW 1 (lK (nx+2) Y' (I F (i++[(k,ss)])) (fun _ _ _=>False)) .normal ⟨sl,h'',nx2⟩:=by
   intro h'' nx2 id q1 q2 q3 q4 q5 sl;exact aT (fD q4 ((hI _ _ _ _).2 ⟨aCI,q1,hF0,_,q3, .inr ⟨Zm,id,or,or,or,aV.none hFd q2,Zm,by rw[hm];exact q5⟩⟩))
  generalize hQ:eW 1 (lK (nx+2) Y' (I F (i++[(k,ss)])) (fun _ _ _=>False)) .normal=Qn at hone⊢;have hFx:∀n,(nx1≤n∨n=nx+1∨n=nx+2)→F n=none:=fun n hn=>by
   rcases hn with hn|rfl|rfl
   ·exact aV.none hFd hn
   ·exact hF0
   exact hFn
  have aCq:∀n,(nx1≤n∨n=nx+1∨n=nx+2)→∀{h2:Hp},F.le h2→∀b,F.le (h2.set n b):=fun n hn h2 q b=>gH q (hFx n hn) b;rcases h2 with⟨rfl,rfl⟩|⟨aAg,id,h3,h4,h5,hFi,rfl,h7⟩
  ·refine aun (e4 h1 e7 e8 aOI) ?_;refine eY rfl rfl Zm (by simp only[jL,jM];omega) ?_;refine Zn ?_;refine aue (e4 h1 e7 e8 aOI) ?_;refine hone _ _ (nx1+1) ?_ or ?_ ?_ ?_ _
   ·repeat (first|exact hFh|refine aCq _ or ?_ _)
   ·simp only[h1,e7,e8,go_sem,reduceIte,jA,jB,jC,jD,reduceCtorEq,jE,jF]
   ·simp only[h1,e7,e8,e9,e11,go_sem,reduceIte,jA,jB,jC,jD,reduceCtorEq,jE,jF]
   have e10:(nx1+1=nx+1)=False:=fls;simp only[e10,Qz,jQ,go_sem,reduceIte,jA,jB,jC,jD,reduceCtorEq,jE,jF]
  have hid:id<nx1:=hdm _ _ h7;have f3:(id=nx+1)=False:=fls h4;have f4:(id=nx+2)=False:=fls h5;have f5:(id=nx1+1)=False:=fls;have f6:(nx+1=id)=False:=fls (fun e=>h4 e.symm);have f7:(nx+2=id)=False:=fls (fun e=>h5 e.symm);have hlen:((i.map KZ).map kV).length=i.length:=Zm;refine aue (e12 h1 h7 e7 e8 aOI hlen hil f3 f4 f5 f6 (e2 f7 hid)) ?_;refine hone _ _ (nx1+1) ?_ or ?_ ?_ ?_ _
  ·repeat (first|exact hFh|refine aCq _ or ?_ _|refine kK ?_ hFi)
  ·simp only[h1,e7,e8,f6,go_sem,reduceIte,jA,jB,jC,jD,reduceCtorEq,jE,jF]
  ·simp only[h1,e7,e8,e9,e11,f7,go_sem,reduceIte,jA,jB,jC,jD,reduceCtorEq,jE,jF]
  have e10:(nx1+1=nx+1)=False:=fls;simp only[e10,go_sem,reduceIte,jA,jB,jC,jD,reduceCtorEq,jE,jF]
 intro F xs aAh hFF h nx1 hii hnx hdm;obtain⟨aCI,hFh,hF0,acc,h1,h2⟩:=(hI _ _ _ _).1 hii;have hle:=Ki aCI hFh;simp only at hnx;have e1:(nx+1=nx+2)=False:=fls;refine aue (e2 h1 e1) ?_;subst aAh;rcases h2 with⟨h2,rfl⟩|⟨aAg,id,h3,h4,h5,hFi,rfl,h7⟩
 ·refine aC h' (kK hle (aAc _ or)) ⟨.inl ⟨by unfold iS;rw[h2];rfl,rfl⟩,Hp.same.aA0⟩
 refine aC (h'.set id (.arr .leaf ((iS r).map kV))) ?_ ⟨.inr ⟨?_,id,h3,?_,by simp[Ka]⟩,fun m hm=>by simp only[Ka];rw[if_neg or]⟩
 ·refine vW (kK hle (aAc _ or)) ?_;simp only[Hp.aAp];rw[if_neg h5,h7];rfl
 ·unfold iS;simpa using aAg
 unfold iS;simp only[jK,go_sem,reduceIte,jA,jB,jC,jD,reduceCtorEq,jE,jF]
end Go.Proofs.YtlhedpgobaellaaGreatDoor
namespace Go.Proofs.YtlhedpgobaellaaGreatDoor
open Go.RowKit
theorem xE{v:V}(h:v.aAE=true):v.loose.aAE=true:=by
 cases v with
 |sl k o es=>cases o<;>rfl
 |_=>first|exact h|rfl
theorem VR.deep{K:Ker}{own:Own}{es:List V}{cv:Value}(r:VR K (.sl .leaf own es) cv):VR K (.sl .leaf own (es.map Kh)) cv:=by
 cases r with
 |slnil=>exact .slnil _
 |slz _ a=>exact .slz _ a
 |sl _ _ _ b off cap f hb hfit hcell hst hv hcap hnil hfull htok=>
  have hl:es.length=(es.map Kh).length:=(List.length_map ..).symm;have:=VR.sl (K:=K) .leaf own (es.map Kh) b off cap f hb (fun e he=>by
   obtain⟨x,hx,rfl⟩:=KA.1 he;have:=hfit x hx;rw[gW] at this⊢;exact xE this) (by rw[←hl];exact hcell) (by rw[←hl];exact hst) (fun i hi j hj=>by
   rw[←hl] at hi;have h1:=hv i hi j hj;have hm:es.getD i Kb∈es:=by rw[Kc,Kf hi];exact Km _
   have hf:=hfit _ hm;rw[gW] at hf;have hj0:j=0:=by simp[Sh.size] at hj;exact hj
   subst hj0;have e1:(es.map Kh).getD i Kb=(es.getD i Kb).loose:=by
    rw[Kc,Kc,KP,Kf hi];rfl
   rw[fZ hf] at h1;rw[e1,fZ (xE hf)];exact h1.loose) (by rw[←hl];exact hcap) hnil (by rw[←hl];exact hfull) (by rw[←hl];exact htok)
  rw[←hl] at this;exact this
theorem zt{sl:List V}{h:Hp}{nx:Nat}(t:Nat){own:Own}{es:List V}(ht:sl.getD t Kb= .sl .leaf own es):sR ⟨sl,h,nx⟩ ⟨sl.set t (.sl .leaf own (es.map Kh)),h,nx⟩:=by
 intro K0 K nx0 a r;have hv:=r.aAC.2 t;rw[ht] at hv;exact⟨K,rfl,r.le,r.aAC.set hv.deep,r.rel,r.live,r.nx,r.defers⟩
end Go.Proofs.YtlhedpgobaellaaGreatDoor
namespace Go.Proofs.YtlhedpgobaellaaGreatDoor
open Go.RowKit Go.Sort
attribute [local irreducible] Kw
structure PS where
 k:Int
 i:Nat
 hv:List ByteArray
 wt:List ByteArray
 ky:List Nat
def PS.v(s:PS):V:= .agg [.int .i64 s.k, .int .i64 s.i,lst .leaf (s.hv.map V.str),lst .leaf (s.wt.map V.str),lst .leaf (s.ky.map kV)]
instance:Inhabited PS:=⟨⟨0,0,[],[],[]⟩⟩
def wz(r:Ru):List Nat→List ByteArray→List ByteArray
 | [],hv=>hv
 |k::ks,hv=>wz r ks (nmL hv (r.b.getD k default).ts)
theorem pr(r:Ru):∀k∈iS r,k<r.b.length:=by
 have key:∀(n:Nat) (s:List ByteArray) (left:List Nat),(∀k∈left,k<r.b.length)→∀p∈iD r n s left,p.1<r.b.length:=by
  intro n;induction n with
  |zero=>intro s left _ p hp;cases hp
  |succ n ih=>
   intro s left hl p hp;unfold iD at hp;split at hp
   ·cases hp
   rename_i aBq;rcases Ks.1 hp with rfl|hp
   ·rcases zU r s left with h|⟨i,h,hi⟩
    ·omega
    rw[h,jG];have:left.getD i 0=left[i]:=by rw[Kc,Kf hi];rfl
    dsimp only;rw[this];exact hl _ (Km _)
   exact ih _ _ (fun k hk=>hl k (KT hk)) p hp
 intro k hk;obtain⟨p,hp,rfl⟩:=KA.1 hk;exact key _ _ _ (fun k hk=>by simpa using hk) p hp
theorem BG{l:Li}(h:bW l=true):l.k=1∨l.k=2∨l.k=3:=by
 unfold bW at h;split at h
 ·rename_i hk;omega
 simp only[KB,decide_eq_true_eq] at h;exact .inr (.inr h.1.1.1)
end Go.Proofs.YtlhedpgobaellaaGreatDoor
namespace Go.Proofs.YtlhedpgobaellaaGreatDoor
open Go.RowKit Go.Sort
theorem p8{r:Ru}{x:ByteArray}:x∈r.vars↔(∃t∈r.h.l,t.x=x∧t.x.size≠0)∨∃l∈r.b,x∈l.vars:=by
 have key:∀(b:List Li) (o:List ByteArray),x∈b.foldl (fun o l=>nmL o l.ts) o↔x∈o∨∃l∈b,x∈l.vars:=by
  intro b;induction b with
  |nil=>intro o;simp
  |cons a b ih=>
   intro o;rw[List.foldl_cons,ih,tP];simp only[Ks,exists_eq_or_imp,ae (l:=a)];rw[or_assoc]
 unfold Ru.vars;rw[key,tP];simp
theorem kU{α:Type}{p:α→Bool}{l:List α}(h:bG p l<0):∀x∈l,p x=false:=by
 have h1:=mK p l;rw[decide_eq_false or] at h1;intro x hx;cases hp:p x with
 |false=>rfl
 |true=>rw[List.any_eq_true.2 ⟨x,hx,hp⟩] at h1;cases h1
theorem FD{r:Ru}(hr:∀l∈r.b,bW l=true){s:List ByteArray}{left:List Nat}(h:jY r s left<0)(inv:∀k,k<r.b.length→k∈left∨∀x∈(r.b.getD k default).vars,x∈s):∀x∈fU r,x∈s:=by
 have h1:(∀k∈left,iL s (r.b.getD k default)=false)∧∀k∈left,decide ((r.b.getD k default).k=1)=false:=by
  unfold jY at h;split at h
  ·omega
  exact⟨kU or,kU h⟩
 obtain⟨he,hp⟩:=h1;have aDp:∀l∈r.b,(∀x∈l.vars,x∈s)∨(iL s l=false∧l.k≠1):=by
  intro l hl;obtain⟨k,hk,rfl⟩:=Qd hl;have hD:r.b.getD k default=r.b[k]:=by rw[Kc,Kf hk];rfl
  rcases inv k hk with h2|h2
  ·have a:=he k h2;have b:=hp k h2;rw[hD] at a b;exact .inr ⟨a,of_decide_eq_false b⟩
  rw[hD] at h2;exact .inl h2
 have key:∀(n:Nat) (s0:List ByteArray),(∀x∈s0,x∈s)→∀x∈gQ r.b n s0,x∈s:=by
  intro n;induction n with
  |zero=>intro s0 h0 x hx;exact h0 x hx
  |succ n ih=>
   intro s0 h0 x hx;unfold gQ at hx;cases hf:r.b.find? (iE s0) with
   |none=>rw[hf] at hx;exact h0 x hx
   |some l=>
    rw[hf] at hx;refine ih (s0++l.vars) (fun y hy=>?_) x hx;rcases Kj.1 hy with hy|hy
    ·exact h0 y hy
    have hl:=Kp hf;have hs0:=KC hf;rcases aDp l hl with h3|⟨h3,h4⟩
    ·exact h3 y hy
    exfalso;unfold iL at h3;simp only[Qc,Bool.and_eq_false_iff] at h3;obtain⟨h3,h5⟩:=h3;have h3:kL s l.vars=false:=by
     rcases h3 with h3|h3
     ·exact absurd h4 (by simpa using h3)
     exact h3
    have hlr:=hr l hl;unfold iE at hs0 h5;simp only[KB,Qv,decide_eq_true_eq,Ql] at hs0;obtain⟨⟨hk,hop⟩,hs0⟩:=hs0;rw[decide_eq_true (p:=l.k=3∧l.op=1) ⟨hk,hop⟩,Qx,Qc] at h5;obtain⟨h5,h6⟩:=h5;unfold bW at hlr;rw[if_neg or] at hlr;simp only[KB,decide_eq_true_eq] at hlr;have hal:=hlr.1.1.2.2.1;have aAZ:∀(p q:Ex),(∀t,t∈l.ts↔t∈p.ts∨t∈q.ts)→(cV p).size≠0→kL s0 (nmL [] q.ts)=true→(decide ((cV p).size≠0)&& !hZ (cV p) s&&kL s (nmL [] q.ts))=false→False:=by
     intro p q hts hp1 hq hf;have hq':=wT h0 hq;rw[hq',Bool.and_true,decide_eq_true hp1,Qx,Bool.not_eq_false'] at hf;have hps:=pS.1 hf;obtain⟨e1,e2⟩:=sx hp1;have:kL s l.vars=true:=by
      rw[kI];intro v hv;obtain⟨t,ht,hx,hz⟩:=ae.1 hv;rcases(hts t).1 ht with ht|ht
      ·rw[e1,KM] at ht;rw[←hx,ht,←e2];exact hps
      exact kI.1 hq' v (tP.2 (.inr ⟨t,ht,hx,hz⟩))
     rw[this] at h3;cases h3
    rcases hs0 with⟨⟨a,b⟩,c⟩|⟨⟨a,b⟩,c⟩
    ·exact aAZ l.x l.y (fun t=>by simp[Li.ts,hal]) a c h5
    exact aAZ l.y l.x (fun t=>by simp[Li.ts,hal,or_comm]) a c h6
 refine key _ _ fun x hx=>?_;unfold xQ at hx;rw[List.mem_flatMap] at hx;obtain⟨l,hl,hx⟩:=hx;split at hx
 ·rename_i hk;rcases aDp l hl with h2|⟨_,h2⟩
  ·exact h2 x hx
  exact absurd hk h2
 cases hx
end Go.Proofs.YtlhedpgobaellaaGreatDoor
namespace Go.Proofs.YtlhedpgobaellaaGreatDoor
open Go.RowKit Go.Sort
attribute [local irreducible] Kw
end Go.Proofs.YtlhedpgobaellaaGreatDoor
