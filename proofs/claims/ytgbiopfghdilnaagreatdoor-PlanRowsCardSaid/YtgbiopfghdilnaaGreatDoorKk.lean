/-
Texts of this proof,one behind the other. No conditions.
-/
import Derived.Laws.IdiomCopy
import Derived.Test.YtgbiopfghdilnaaGreatDoorKh
open Go.Proofs.YtgbiopfghdilnaaGreatDoor.Hp renaming set→Ka,le_refl→Kd,aAQ→Ke,same→Kf,le_trans→Kk
open Go.Proofs.YtgbiopfghdilnaaGreatDoor.V renaming undef→Kb,fits→Kj,names→Kq,loose→Ks
open List renaming getD_eq_getElem?_getD→Kc,getElem?_eq_getElem→Kg,take_succ_eq_append_getElem→Kh,getElem_mem→Ki,mem_append→Km,map_append→Ko,take_of_length_le→Kt,getElem?_append_left→Ku,map_cons→Kv,range→Kw,map_nil→Kx,mem_of_find?_eq_some→Ky,length_append→Kz,length_take→KA,getElem?_append_right→KC,mem_cons→KD,mem_map→KI,append_nil→KJ,mem_of_mem_take→KM,append_assoc→KP,getElem?_map→KQ,findIdx?_eq_some_iff_getElem→KR,mem_cons_of_mem→KU,take_append_of_le_length→KV,find?_some→KW,nodup_cons→KX,getElem?_drop→KY,mem_cons_self→KZ,length_eraseIdx_of_lt→Qa,mem_of_mem_eraseIdx→Qd,all_eq_true→Qe,length_filter_le→Ql,mem_of_mem_drop→Qm,getElem?_range→Qo,getElem?_take→Qp,find?_eq_none→Qq,mem_singleton→Qr,length_range→Qv,filter_cons→Qw,nil_append→Qy,mem_filter→QA,filter_nil→QB,take_zero→QC,length→QG
open Nat renaming mul_le_mul_right→Kp,le_refl→KF,zero_le→KG,lt_or_ge→KH,add_mul→KN,reduceAdd→Qb,reduceSub→Qc,reduceLeDiff→Qf,reduceEqDiff→Qg,zero_add→Qh,lt_of_lt_of_le→Qt,reduceLT→Qu,lt_succ_self→Qx,zero_mul→QD,le_trans→QE,mul_one→QF,le_succ→QH
open Array renaming getD_eq_getD_getElem?→KB
open Bool renaming and_eq_true→KE,not_eq_true→KS,or_eq_true→Qz
open Go.IntKind renaming wrap→KK
open Go.Builtin renaming append_→KO
open Go renaming undef→Qi
open Int renaming reduceToNat→Qj
open Prod renaming fst→Qk
open Nat renaming reduceAdd→jA,reduceSub→jB,reduceLT→jC,reduceLeDiff→jD,reduceEqDiff→jE
open Int renaming reduceToNat→jF,toNat_natCast→jG,natCast_add→jH,natCast_one→jI,natCast_zero→jJ
open List renaming length_map→jK,length_cons→jL,length_nil→jM,cons_append→jP,nil_append→jQ
set_option linter.all false
set_option maxHeartbeats 8000000
namespace Go.Proofs.YtgbiopfghdilnaaGreatDoor
open Go.RowKit
variable{P:Program}{K:Ker}{h:Hp}{k:Sh}
def jh(es:List V)(o:Nat)(ys:List V):List V:=es.take o++ys++es.drop (o+ys.length)
theorem xr{es ys:List V}{o:Nat}(hle:o+ys.length≤es.length):(jh es o ys).length=es.length:=by simp[jh];omega
theorem Fc{es ys:List V}{o:Nat}(hle:o+ys.length≤es.length)(q:Nat):(jh es o ys).getD q Kb=if q<o then es.getD q Kb else if q<o+ys.length then ys.getD (q-o) Kb else es.getD q Kb:=by
 simp only[jh,Kc,KP];have htk:(es.take o).length=o:=by simp;omega
 by_cases e1:q<o
 ·rw[if_pos e1,Ku (by rw[htk];exact e1),Qp,if_pos e1]
 rw[if_neg e1,KC (by rw[htk];omega),htk];by_cases e2:q<o+ys.length
 ·rw[if_pos e2,Ku or]
 rw[if_neg e2,KC or,KY];have:o+ys.length+(q-o-ys.length)=q:=or;rw[this]
def pP(K:Ker)(k:Sh)(ys:List V)(cs:List Value):Prop:=cs.length=ys.length*k.size∧(∀y∈ys,y.fits k=true)∧∀i,i<ys.length→∀j,j<k.size→VR K ((ys.getD i Kb).cell j) (cs.getD (i*k.size+j) Qi)
theorem pP.one{ys:List V}{cs:List Value}(c:pP K k ys cs):∀u∈cs,u.oneCell'=true:=by
 obtain⟨hcl,hfy,hv⟩:=c;intro u hu;obtain⟨q,hq,rfl⟩:=List.getElem_of_mem hu;rw[hcl] at hq;obtain⟨d1,d2,d3⟩:=sL hq;have h1:=hv _ d1 _ d2;rw[d3,Kc (l:=cs),Kg (by rw[hcl];exact hq)] at h1;have hm:ys.getD (q / k.size) Kb∈ys:=by rw[Kc,Kg d1];exact Ki _
 have h2:=hfy _ hm;refine VR.aBh h1 ?_;cases k with
 |leaf=>
  have hz:q % Sh.leaf.size=0:=by simp[Sh.size,Nat.mod_one]
  rw[hz];rw[Kj] at h2;generalize ys.getD (q / Sh.leaf.size) Kb=y at h2;cases y<;>first|rfl|(simp[V.aAE] at h2)
 |agg n=>
  generalize ys.getD (q / (Sh.agg n).size) Kb=y at h2;cases y with
  |agg cs2=>
   simp only[Kj,KE,decide_eq_true_eq,Qe] at h2;show(cs2.getD _ Kb).aAE=true;have hlt:q % (Sh.agg n).size<cs2.length:=by rw[h2.1];exact d2
   rw[Kc,Kg hlt];exact h2.2 _ (Ki _)
  |_=>simp[Kj] at h2
theorem pP.mono{K K':Ker}(hle:K.le K'){ys:List V}{cs:List Value}(c:pP K k ys cs):pP K' k ys cs:=⟨c.1,c.2.1,fun i hi j hj=>(c.2.2 i hi j hj).mono hle⟩
theorem xq(hr:Rel K h){n o:Nat}{es ys:List V}(hn:h n=some (.arr k es))(hle:o+ys.length≤es.length){cs:List Value}(c:pP K k ys cs):
 ∃K',(storeCells ⟨K.mu n,o*k.size,none⟩ cs 0).run P K.w= .ok () K'.w∧K.le K'∧K'.live=K.live∧K'.mu=K.mu∧(∀b,K'.w.shape? b=K.w.shape? b)∧Rel K' (h.set n (.arr k (jh es o ys))):=by
 have aEC:=c.one;obtain⟨hcl,hfy,hv⟩:=c;have hbr:=hr.blk n _ hn;cases hbr with
 |arr _ _ c T hh hcs aA1 aAL hvs=>
  have aCi:o*k.size+ys.length*k.size≤es.length*k.size:=by rw[←KN];exact Kp _ hle
  have hst:=run_storeCells_at P (K.mu n) (o*k.size) T cs 0 c K.w hh (by rw[hcl];omega) aEC;simp only[Nat.add_zero,hcl] at hst;generalize hc':(c.toList.take (o*k.size)++cs++c.toList.drop (o*k.size+ys.length*k.size)).toArray=c' at hst;have aBJ:c'.size=c.size:=by rw[←hc'];simp only[List.size_toArray,Kz,KA,List.length_drop,Array.length_toList,hcl];omega
  have aAx:=K.aBa (K.mu n) c' c T hh aBJ (hr.base n _ hn) (fun o ho=>by rw[aA1] at ho;omega);have hlen:=xr hle;refine⟨K.row (K.mu n) c',hst,aAx,rfl,rfl,fun b=>vQ K.w _ c' c T (0,0) hh aBJ b,?_⟩;refine hr.row hn c' c T hh aBJ (fun o ho=>by rw[aA1] at ho;omega) (.arr k _ c' T ?_ (by rw[hlen,aBJ];exact hcs) aA1 ?_ ?_)
  ·show(K.w.setRow (K.mu n) c').heap[K.mu n]?=_;exact setRow_heap K.w (K.mu n) c c' T (0,0) hh
  ·intro x hx;rcases Km.1 hx with hx|hx
   ·rcases Km.1 hx with hx|hx
    ·exact aAL x (KM hx)
    exact hfy x hx
   exact aAL x (Qm hx)
  intro q hq j hj;rw[hlen] at hq;have aEG:=cX hj hq;have aBV:c'[q*k.size+j]?=if q<o then c[q*k.size+j]? else if q<o+ys.length then cs[(q-o)*k.size+j]? else c[q*k.size+j]?:=by
   rw[←hc'];simp only[List.getElem?_toArray,KP];by_cases e1:q<o
   ·have h1:=cX hj e1;rw[if_pos e1,Ku (by simp;omega),Qp,if_pos h1];simp
   rw[if_neg e1];have h1:o*k.size≤q*k.size:=Kp _ or;have aRL:q*k.size-o*k.size=(q-o)*k.size:=(Nat.sub_mul _ _ _).symm;have htk:(c.toList.take (o*k.size)).length=o*k.size:=by simp;omega
   rw[KC (by rw[htk];omega),htk];by_cases e2:q<o+ys.length
   ·have h2:=cX (k:=k.size) (i:=q-o) (n:=ys.length) hj or;rw[if_pos e2,Ku (by rw[hcl];omega)];have:q*k.size+j-o*k.size=(q-o)*k.size+j:=or;rw[this]
   have h2:(o+ys.length)*k.size≤q*k.size:=Kp _ or;rw[KN] at h2;rw[if_neg e2,KC (by rw[hcl];omega),hcl,KY];have:o*k.size+ys.length*k.size+(q*k.size+j-o*k.size-ys.length*k.size)=q*k.size+j:=or;rw[this];simp
  rw[Fc hle,KB,aBV];by_cases e1:q<o
  ·rw[if_pos e1,if_pos e1,←KB];exact(hvs q hq j hj).mono aAx
  rw[if_neg e1,if_neg e1];by_cases e2:q<o+ys.length
  ·rw[if_pos e2,if_pos e2,←Kc];exact(hv _ or j hj).mono aAx
  rw[if_neg e2,if_neg e2,←KB];exact(hvs q hq j hj).mono aAx
theorem Dx(hr:Rel K h){n o m:Nat}{es:List V}(hn:h n=some (.arr k es))(hle:o+m≤es.length):
 ∃cs,pP K k ((es.drop o).take m) cs∧cs.length=m*k.size∧∀j u,cs[j]?=some u→K.w.cell? ⟨K.mu n,o*k.size+j,none⟩=some u:=by
 have hbr:=hr.blk n _ hn;cases hbr with
 |arr _ _ c T hh hcs aA1 aAL hvs=>
  have aCi:o*k.size+m*k.size≤es.length*k.size:=by rw[←KN];exact Kp _ hle
  have hml:((es.drop o).take m).length=m:=by simp;omega
  refine⟨(Kw (m*k.size)).map fun j=>c.getD (o*k.size+j) Qi,⟨by rw[hml];simp,fun y hy=>aAL y (Qm (KM hy)),fun i hi j hj=>?_⟩,Zm,fun j u hu=>?_⟩
  ·rw[hml] at hi;have h1:=cX hj hi;have h2:=hvs (o+i) or j hj;have e1:((es.drop o).take m).getD i Kb=es.getD (o+i) Kb:=by rw[Kc,Kc,List.getElem?_take_of_lt hi,KY]
   have e2:((Kw (m*k.size)).map fun j=>c.getD (o*k.size+j) Qi).getD (i*k.size+j) Qi=c.getD ((o+i)*k.size+j) Qi:=by
    rw[Kc,KQ,Qo h1,KN,Nat.add_assoc];rfl
   rw[e1,e2];exact h2
  rw[KQ] at hu;have hj:j<m*k.size:=by
   rcases KH j (m*k.size) with h|h
   ·exact h
   rw[List.getElem?_eq_none (by simpa using h)] at hu;cases hu
  rw[Qo hj] at hu;have hu:c.getD (o*k.size+j) Qi=u:=by simpa using hu
  simp only[World.cell?,hh,Option.isSome_none,Bool.false_eq_true,if_false];rw[←hu,KB,Array.getElem?_eq_getElem or];rfl
theorem pu(w:World)(t t' ty e e':TypeId)(i:TypeInfo)(b o n cap:Nat)(a:Addr)(m c:Nat)(cs:List Value){w':World}
 (hu:P.underlying t=some (.slice e)) (hu':P.underlying t'=some (.slice e')) (hi:P.info? e=some i) (hn:cs.length=m*i.size) (aBN:n+m≤cap)
 (bBl:∀j v,cs[j]?=some v→w.cell? (a.add j)=some v) (hst:(storeCells ⟨b,o+n*i.size,none⟩ cs 0).run P w= .ok () w'):
 (KO #[t,t'] ty #[.slice (some ⟨b,o,none⟩) n cap, .slice (some a) m c]).run P w= .ok (.slice (some ⟨b,o,none⟩) (n+m) cap) w':=by
 have hl:=run_firstCells_some (P:=P) w i.size m a m c cs hn bBl;simp[KO,run_underlying hu,run_underlying hu',sizeOf,typeInfo,hi,Builtin.lenOf,aBN,hl,Addr.add_lit,hst]
theorem po{ops:Array Oper}{o:Oper}{a:Act}{w:World}{K:Act→World→Prop}{Q:Exit→Act→World→Prop}{E:Prop}(bi:Builtin)
 (hg:o.guard=none) (xs:Array Operand) (ts:Array TypeId) (hop:o.op=Op.call {callee:=Callee.builtin bi,args:=xs,argTypes:=ts})
 (F:Sem Value) (hF:∀cs,builtin bi ts o.type cs (xs.map a.eval)=(do pure (.value (←F)))) {v':Value} {w':World} (hr:F.run P w= .ok v' w') (hK:K (a.put o.dst v') w'):
 if Region.wanted o (yielded ops a.tmps)=true then Oper.wp P o a w K Q else E:=by
 have hw:Region.wanted o (yielded ops a.tmps)=true:=by simp[Region.wanted,hg]
 rw[if_pos hw];unfold Oper.wp;simp[execOp,hop,resolve,invoke,hF,hr,Result.andThen];exact hK
end Go.Proofs.YtgbiopfghdilnaaGreatDoor
namespace Go.Proofs.YtgbiopfghdilnaaGreatDoor
open Go.RowKit Go.Shelf Go.Lib Go.Sort
theorem Hh:∃i,Tryz.prog.info? 3=some i∧i.size=1∧i.zero=some (.int .i64 0):=by
 have h1:(Tryz.prog.info? 3).map (·.size)=some 1:=Zz;have h2:(Tryz.prog.info? 3).bind (·.zero)=some (.int .i64 0):=Zz;obtain⟨i,hi,h3⟩:=Option.map_eq_some_iff.1 h1;rw[hi] at h2;exact⟨i,hi,h3,h2⟩
def zin:V:= .int .i64 0
theorem Gw(K:Ker):VR K zin (.int .i64 0):= .int _ _
set_option maxRecDepth 1000000 in
theorem Dn(b L cap i j:Nat)(hij:j=i+1)(hj:j≤L)(hcap:L≤cap)(w w1 w2:World)
 (hap:∀(ty:TypeId) (A:Addr) (c:Nat),A=⟨b,j,none⟩∨L=j→(KO #[37,37] ty #[.slice (some ⟨b,0,none⟩) i cap, .slice (some A) (L-j) c]).run Tryz.prog w.drew= .ok (.slice (some ⟨b,0,none⟩) (i+(L-j)) cap) w1)
 (hcl:∀ty,(Builtin.clear_ #[37] ty #[.slice (some ⟨b,i+(L-j),none⟩) (L-(i+(L-j))) (cap-(i+(L-j)))]).run Tryz.prog w1= .ok (.tuple #[]) w2):
 Calls Tryz.prog 85 #[.slice (some ⟨b,0,none⟩) L cap, .int .i64 i, .int .i64 j] w fun e w'=>e= .returned (.slice (some ⟨b,0,none⟩) (i+(L-j)) cap)∧w'=w2:=by
 have hne:¬(i:Int)=(j:Int):=or;have hic:i≤cap:=or;have hjc:j≤cap:=or;obtain⟨A,hA,hap⟩:∃A:Addr,(if cap=j then some (⟨b,0,none⟩:Addr) else some ⟨b,j,none⟩)=some A∧Hid (∀(ty:TypeId) (c:Nat),(KO #[37,37] ty #[.slice (some ⟨b,0,none⟩) i cap, .slice (some A) (L-j) c]).run Tryz.prog w.drew= .ok (.slice (some ⟨b,0,none⟩) (i+(L-j)) cap) w1):=by
  by_cases h:cap=j
  ·exact⟨⟨b,0,none⟩,by simp[h],fun ty c=>hap ty _ c (.inr or)⟩
  exact⟨⟨b,j,none⟩,by simp[h],fun ty c=>hap ty _ c (.inl rfl)⟩
 have mixed:Tryz.prog.follows .mixedOrders=true:=Zz;have hle:i≤j:=or;have hlt:i<L:=or;have hLi:¬L=i:=or;have hci:¬cap=i:=or;have hcm:¬cap=i+(L-j):=or;have hml:i+(L-j)≤L:=or;clear hij
 go_enter Tryz.func85,Tryz.ntmps85
 go_wp2_with fail
 go_region_law_o (refine po .append rfl #[.tmp 22, .tmp 25] _ rfl _ (fun _=>rfl) (by simpa [Act.eval,Act.put] using hap.out _ _) ?_)
 go_wp2
 go_ret
 exact⟨rfl,rfl⟩
theorem DQ(h:Hp)(n:Nat)(a b:Blk):(h.set n a).set n b=h.set n b:=by
 funext x;unfold Ka;split<;>rfl
theorem su{K:Ker}{a b c:V}{cargs:Array Value}(hv:VRs K [a,b,c] cargs):∃x y z,cargs=#[x,y,z]∧VR K a x∧VR K b y∧VR K c z:=by
 obtain⟨hsz,hv⟩:=hv;have hsz:cargs.size=3:=by simpa using hsz.symm
 have h0:=hv 0 Zm;have h1:=hv 1 Zm;have h2:=hv 2 Zm;refine⟨_,_,_,?_,h0,h1,h2⟩;apply Array.ext
 ·simp[hsz]
 intro i hi _;have:i=0∨i=1∨i=2:=or;rcases this with rfl|rfl|rfl<;>simp[Array.getD,hsz]
set_option maxRecDepth 100000 in
theorem j4(n:Nat)(l zs:List V)(i:Nat)(h:Hp)(nx:Nat)(hn:h n=some (.arr .leaf (l++zs)))(hi:i<l.length):
 aY Tryz.prog 85 [.rs n .leaf 0 l.length, .int .i64 i, .int .i64 (i+1:Nat)] h nx fun v h' _=>v= .rs n .leaf 0 (l.length-1)∧h'=h.set n (.arr .leaf (l.take i++l.drop (i+1)++(zin::zs))):=by
 refine⟨Zz,fun K cargs hlv hr hv=>?_⟩;obtain⟨x,y,z,rfl,v1,v2,v3⟩:=su hv;obtain⟨i0,hi0,hs0,hz0⟩:=Hh;cases v2;cases v3;cases v1 with
 |rs _ _ _ _ cap hl hcap hm=>
  have hlt:=(hr.blk n _ hn).lt_size;obtain⟨cs,hc,hcl,hcr⟩:=Dx hr.drew hn (o:=i+1) (m:=l.length-(i+1)) (by simp;omega);have hty:((l++zs).drop (i+1)).take (l.length-(i+1))=l.drop (i+1):=by rw[List.drop_append_of_le_length or,KV Zm,Kt Zm]
  rw[hty] at hc;have hyl:(l.drop (i+1)).length=l.length-(i+1):=Zm;have hbl:=xr (es:=l++zs) (o:=i) (ys:=l.drop (i+1)) (by simp;omega);obtain⟨K1,q1,q2,q3,q4,q5,q6⟩:=xq (P:=Tryz.prog) hr.drew hn (o:=i) (ys:=l.drop (i+1)) (by simp;omega) hc;have hn1:(h.set n (.arr .leaf (jh (l++zs) i (l.drop (i+1))))) n=some (.arr .leaf (jh (l++zs) i (l.drop (i+1)))):=by simp[Ka]
  have hK1:K.le K1:=K.le_drew.trans q2;have hmu1:K1.mu n=K.mu n:=hK1.mu n hl;obtain⟨T,m,hsh,hmm⟩:=hm;have vr1:VR K1 (.rs n .leaf (l.length-1) 1) (.slice (some ⟨K1.mu n,l.length-1,none⟩) 1 (cap-(l.length-1))):=by
   have:=VR.rs (K:=K1) n .leaf (l.length-1) 1 (cap-(l.length-1)) (hK1.live n hl) or ⟨T,m,by rw[hmu1,hK1.shape _ hlt];exact hsh,by rw[←hmm];congr 1;omega⟩;rwa [show Sh.leaf.size=1 from rfl,QF] at this
  obtain⟨K2,c1,c2,c3,c4⟩:=wY (P:=Tryz.prog) q6 hn1 (off:=l.length-1) (ln:=1) (by rw[hbl];simp;omega) vr1 Tryz.underlying37 hi0 hz0 (Gw K1) rfl 0;have e1:i+(l.length-(i+1))=l.length-1:=or;have e2:l.length-(l.length-1)=1:=or;refine(Dn (K.mu n) l.length cap i (i+1) rfl or hcap K.w K1.w K2.w (fun ty A c hA=>?_) (fun ty=>?_)).mono ?_
  ·refine pu (P:=Tryz.prog) K.w.drew _ _ ty _ _ i0 (K.mu n) 0 i cap A (l.length-(i+1)) c cs Tryz.underlying37 Tryz.underlying37 hi0 (by rw[hcl,hs0];rfl) or (fun j u hj=>?_) ?_
   ·rcases hA with rfl|hA
    ·rw[Addr.add_lit];have:=hcr j u hj;rwa [show Sh.leaf.size=1 from rfl,QF] at this
    have:cs=[]:=List.length_eq_zero_iff.1 (by rw[hcl,show l.length-(i+1)=0 by omega,QD]);rw[this] at hj;cases hj
   rw[hs0,Qh];exact q1
  ·rw[e1,e2,←hmu1];exact c1
  rintro e w' ⟨rfl,rfl⟩;have hK2:=hK1.trans c2;have vr:VR K (.rs n .leaf 0 (l.length-1)) (.slice (some ⟨K.mu n,0,none⟩) (l.length-1) cap):=by
   have:=VR.rs (K:=K) n .leaf 0 (l.length-1) cap hl or ⟨T,m,hsh,hmm⟩;rwa [QD] at this
  refine⟨K2,_,_,_,nx,rfl,rfl,hK2,by rw[e1];exact vr.mono hK2,?_,fun m hm=>?_,KF _,rfl,rfl⟩
  ·rw[DQ] at c4;have e3:jh (l++zs) i (l.drop (i+1))=(l.take i++l.drop (i+1))++((l++zs).drop (l.length-1)):=by
    unfold jh;rw[KV or,hyl,e1]
   have e4:(l.take i++l.drop (i+1)).length=l.length-1:=by simp;omega
   have e5:(l++zs).drop (l.length-1+1)=zs:=by rw[show l.length-1+1=l.length by omega];simp
   have:(jh (l++zs) i (l.drop (i+1))).take (l.length-1)++List.replicate 1 zin++(jh (l++zs) i (l.drop (i+1))).drop (l.length-1+1)=l.take i++l.drop (i+1)++(zin::zs):=by
    have e6:(l.take i++l.drop (i+1)++(l++zs).drop (l.length-1)).drop (l.length-1+1)=zs:=by
     rw[List.drop_append,List.drop_of_length_le or,e4,show l.length-1+1-(l.length-1)=1 by omega,List.drop_drop,e5,Qy]
    rw[e3,List.take_left' e4,e6];simp[KP]
   rw[this] at c4;exact c4
  have h1:=c3 m hm;rw[q3] at h1;exact⟨hlv m h1, .inl h1⟩
end Go.Proofs.YtgbiopfghdilnaaGreatDoor
namespace Go.Proofs.YtgbiopfghdilnaaGreatDoor
open Go.RowKit Go.Sort
attribute [local irreducible] KK
instance:Inhabited Am:=⟨⟨⟨#[]⟩, .nil,[]⟩⟩
instance:Inhabited Li:=⟨⟨0,default,0,default,default,0⟩⟩
def fF(s:List ByteArray)(l:Li):Bool:=(decide (l.k≠1)&&iR s l.vars)||cU s l
theorem iI{l:Li}(h:bG l=true):l.vars.length≤2097158:=by
 have h1:=jU l.ts [];have h2:=fY h;simp only[jM] at h1;unfold Li.vars;omega
theorem AF(s:List ByteArray)(hl:s.length≤1000000000)(n:Nat)(es:List ME)(c:Nat)(h:Hp)(hm:h n=some (.mp es c))(hs:gW es s)(l:Li)(hr:bG l=true):aK Tryz.prog 134 [.map n,l.v] h (.bool (fF s l)):=by
 refine aH (fun L=>trivial) fun h' nx hh=>aB L.bAL fun hd=>?_;have hm1:=hh _ _ hm rfl;have n1:n<nx:=hd _ _ hm1;have b1:=iI hr;obtain⟨o1,ho1⟩:=bQ .leaf (l.vars.map V.str);have C1:∀h:Hp,aK Tryz.prog 40 [l.v] h (.sl .leaf o1 (l.vars.map V.str)):=fun h=>ho1▸xH l hr h;have hf:=Li.aAA l;have C2:∀h:Hp,h n=some (.mp es c)→aK Tryz.prog 175 [.map n, .sl .leaf o1 (l.vars.map V.str)] h (.bool (iR s l.vars)):=fun h hm=>xP s hl n es c h hm hs o1 _ or;have C3:∀h:Hp,h n=some (.mp es c)→aK Tryz.prog 131 [.map n,l.v] h (.bool (cU s l)):=fun h hm=>dk s hl n es c h hm hs l hr;obtain⟨T,hT,hk⟩:∃T,l.v= .agg T∧T.getD 0 (.tup [])= .int .i64 l.k:=⟨_,rfl,rfl⟩;rw[hT] at C1 C3 hf⊢;refine ZK ?_;unfold fF;by_cases k1:l.k=1
 ·have g1:(l.k != 1)=false:=bnf;refine aue (e4 hf hk g1 n1) ?_;refine aI (C3 (h'.set nx (.arr (.agg 17) [.agg T])) (by simp only[hm1,n1,go_sem,reduceIte,jA,jB,jC,jD,reduceCtorEq,jE,jF])) rfl (aL _) ?_;refine Zn ?_;refine au ?_;refine aC h' (leo hd) ⟨?_,rfl⟩;simp[k1]
 have g1:(l.k != 1)=true:=bnt;refine aue (e4 hf hk g1 n1) ?_;refine aI (C2 (h'.set nx (.arr (.agg 17) [.agg T])) (by simp only[hm1,n1,go_sem,reduceIte,jA,jB,jC,jD,reduceCtorEq,jE,jF])) rfl (aL _) ?_;refine Zn ?_;cases ka:iR s l.vars with
 |true=>
  refine au ?_;refine aC h' (leo hd) ⟨?_,rfl⟩;simp[k1]
 |false=>
  refine aue (e2 hf n1) ?_;refine aI (C3 (h'.set nx (.arr (.agg 17) [.agg T])) (by simp only[hm1,n1,go_sem,reduceIte,jA,jB,jC,jD,reduceCtorEq,jE,jF])) rfl (aL _) ?_;refine Zn ?_;refine au ?_;refine aC h' (leo hd) ⟨?_,rfl⟩;simp[k1]
theorem Ad(r:Ru)(hr:bT r=true)(s:List ByteArray)(hl:s.length≤1000000000)(n:Nat)(es:List ME)(c:Nat)(h:Hp)(hm:h n=some (.mp es c))(hs:gW es s)(p q:Nat)(hp:h p=some (.arr .leaf [.map n]))(hq:h q=some (.arr (.agg 6) [r.v]))(k:Nat)(hk:k<r.b.length):
 aK Tryz.prog 133 [.int .i64 k, .ptr p .leaf 0 0, .ptr q (.agg 6) 0 0] h (.bool (fF s (r.b.getD k default))):=by
 refine aH (fun L=>trivial) fun h' nx hh=>aB L.bAM fun hd=>?_;refine ZK ?_;have hm1:=hh _ _ hm rfl;have hp1:=hh _ _ hp rfl;have hq1:=hh _ _ hq rfl;have n2:p<nx:=hd _ _ hp1;have n3:q<nx:=hd _ _ hq1;have hg:=aJ Li.v r.b k hk;have hD:r.b.getD k default=r.b[k]:=by rw[Kc,Kg hk];rfl
 have hrl:=(cM hr).2.2 r.b[k] (Ki _);rw[hD];generalize r.b[k]=l at hg hrl;have hf:=Li.aAA l;have C:=AF s hl n es c h' hm1 hs l hrl;obtain⟨X,hX⟩:∃X,l.v=X:=⟨_,rfl⟩;rw[hX] at hg hf C;refine aue (e8 hp1 hq1 hg hk Ru.v.eq_1 (@jK Li V) (jG k) (bC hf)) ?_;refine bM C rfl (aL _) ?_;refine Zn ?_;refine au ?_;exact aC h' (leo hd) ⟨rfl,rfl⟩
theorem Ac(r:Ru)(p:Nat)(h:Hp)(hp:h p=some (.arr (.agg 6) [r.v]))(k:Nat)(hk:k<r.b.length):
 aK Tryz.prog 135 [.int .i64 k, .ptr p (.agg 6) 0 0] h (.bool (decide ((r.b.getD k default).k=1))):=by
 refine aH (fun L=>trivial) fun h' nx hh=>aB L.bAK fun hd=>?_;refine ZK ?_;have hp1:=hh _ _ hp rfl;have n2:p<nx:=hd _ _ hp1;have hg:=aJ Li.v r.b k hk;have hD:r.b.getD k default=r.b[k]:=by rw[Kc,Kg hk];rfl
 rw[hD];generalize r.b[k]=l at hg;obtain⟨T,hT,hk0⟩:∃T,l.v= .agg T∧T.getD 0 (.tup [])= .int .i64 l.k:=⟨_,rfl,rfl⟩;rw[hT] at hg;refine aue (e8 hp1 hg hk Ru.v.eq_1 (@jK Li V) (jG k) hk0 n2) ?_;exact aC h' (leo hd) ⟨vb (by rw[Bool.eq_iff_iff];simp),rfl⟩
def kV(k:Nat):V:= .int .i64 k
theorem Bs:aE Tryz.prog 132=some (LB.aAi .leaf):=Zz
theorem Da(p:Nat→Bool)(n:Nat)(l:List Nat)(zs:List V)(g:Nat)(caps:List V)(h:Hp)(hn:h n=some (.arr .leaf (l.map kV++zs)))(hp:∀x∈l,aK Tryz.prog g ([kV x]++caps) h (.bool (p x)))(hl:l.length≤1000000000):
 aK Tryz.prog 132 [.rs n .leaf 0 l.length, .fn (.func g) [] caps] h (.int .i64 (bH p l)):=by
 refine aH (fun L=>trivial) fun h' nx hh=>aB Bs fun hd=>?_;have hn':=hh n _ hn rfl;refine ZK ?_;refine au ?_;refine aO (fun i:Nat=>aD 19 0 [(0, .rs n .leaf 0 l.length),(1, .fn (.func g) [] caps),(7, .int .i64 l.length),(8, .int .i64 i)]) (fun i hp2 _=>i≤l.length∧hp2=h'∧∀x∈l.take i,p x=false) (fun i=>l.length-i) 0 ⟨KG _,rfl,Zm⟩ ?_ ?_
 ·simp only[WkL,aD,jH,jI,jJ,go_sem,reduceIte,jA,jB,jC,jD,reduceCtorEq,jE,jF]
 rintro i hp2 nx1 ⟨hi,rfl,hno⟩;generalize hQ:aV _ _ _ _ _=Q0;refine Zk ?_;rcases KH i l.length with hlt|hge
 ·have hc:decide ((i:Int)<(l.length:Int))=true:=decide_eq_true or;have hg:(l.map kV++zs).getD i (.tup [])= .int .i64 l[i]:=by rw[Kc,Ku (by simpa using hlt),←Kc];exact aJ kV l i hlt
  have hap:(l.map kV++zs).length=l.length+zs.length:=Zm;have hlz:i<l.length+zs.length:=or;have hw:IntKind.i64.wrap ((i:Int)+1)=((i+1:Nat):Int):=by rw[gA]<;>omega
  have htk:l.take (i+1)=l.take i++[l[i]]:=Kh hlt
  (repeat' (first|(with_reducible first|refine stp ?_|refine cG ZM ?_|refine pI (fun _=>?_) (fun _=>?_))|((first|(with_reducible refine lV ?_;first|refine jX rfl ?_ ?_|refine iO rfl (hp l[i] (Ki _)) rfl hh ?_|refine Zx ?_)|(with_reducible refine lZ ?_;first|refine kB rfl ?_ ?_|refine ZX ?_)|refine Zy ?_)<;>try simp only[hc,hg,hw,hlt,hn',hap,hlz,Qh,jG,jQ,go_sem,reduceIte,jA,jB,jC,jD,reduceCtorEq,jE,jF])|refine ZY ?_|omega))
  ·rename_i hx;rw[←hQ];refine au ?_;refine aC hp2 (Kd _) ⟨?_,rfl⟩;refine Zn ?_;rw[bH,(KR (p:=p) (xs:=l) (i:=i)).2 ⟨hlt,hx,fun j hj=>by simp[hno l[j] (List.mem_take_iff_getElem.2 ⟨j,or,rfl⟩)]⟩]
  rename_i hx;rw[←hQ];refine aF (i+1) or ⟨hlt,rfl,fun x hx2=>?_⟩ ?_
  ·rw[htk] at hx2;rcases Km.1 hx2 with h1|h1
   ·exact hno x h1
   simp at h1;rw[h1];exact hx
  simp only[WkL,aD,jH,jI,jJ,go_sem,reduceIte,jA,jB,jC,jD,reduceCtorEq,jE,jF]
 have hc:decide ((i:Int)<(l.length:Int))=false:=decide_eq_false or;refine aue hc ?_;rw[←hQ];refine au ?_;refine aC hp2 (Kd _) ⟨?_,rfl⟩;refine Zn ?_;rw[show i=l.length by omega,List.take_length] at hno;rw[bH,List.findIdx?_eq_none_iff.2 (fun x hx=>by simp[hno x hx])]
def PlL(h:Hp)(n0:Nat)(l:List Nat)(v:V):Prop:=(l=[]∧v= .sl .leaf .nil [])∨∃id zs,n0≤id∧v= .rs id .leaf 0 l.length∧h id=some (.arr .leaf (l.map kV++zs))
theorem PlL.le{h h':Hp}{n0:Nat}{l:List Nat}{v:V}(o:PlL h n0 l v)(hle:h.le h'):PlL h' n0 l v:=o.imp id fun⟨i,z,b,c,d⟩=>⟨i,z,b,c,hle _ _ d⟩
theorem g8(p:Nat→Bool){h:Hp}{n0:Nat}{l:List Nat}{v:V}(hv:PlL h n0 l v)(g:Nat)(caps:List V)(h':Hp)(hh:h.has h')(hp:∀x∈l,aK Tryz.prog g ([kV x]++caps) h' (.bool (p x)))(hl:l.length≤1000000000):
 aK Tryz.prog 132 [v, .fn (.func g) [] caps] h' (.int .i64 (bH p l)):=by
 rcases hv with⟨rfl,rfl⟩|⟨id,zs,h2,rfl,h3⟩
 ·exact nS kV (fun _=>rfl) Bs p .nil [] g caps h' (fun x hx=>by cases hx) Zm
 exact Da p id l zs g caps h' (hh _ _ h3 rfl) hp hl
def iS(r:Ru)(s:List ByteArray)(left:List Nat):Int:=
 if 0≤bH (fun k=>fF s (r.b.getD k default)) left then bH (fun k=>fF s (r.b.getD k default)) left else bH (fun k=>decide ((r.b.getD k default).k=1)) left
theorem y6(r:Ru)(hr:bT r=true)(s:List ByteArray)(hl:s.length≤1000000000)(n:Nat)(es:List ME)(c:Nat)(h:Hp)(hm:h n=some (.mp es c))(hs:gW es s)(left:List Nat)(hleft:∀k∈left,k<r.b.length)(hll:left.length≤1000)(n0:Nat)(v:V)(hv:PlL h n0 left v):
 aK Tryz.prog 84 [.map n,r.v,v] h (.int .i64 (iS r s left)):=by
 refine aH (fun L=>trivial) fun h' nx hh=>aB L.bC4 fun hd=>?_;have hm1:=hh _ _ hm rfl;have n1:n<nx:=hd _ _ hm1;obtain⟨X,hX⟩:∃X,r.v=X:=⟨_,rfl⟩;have hf:X.fits (.agg 6)=true:=by rw[←hX];rfl
 rw[hX];refine ZK ?_;obtain⟨H,hH⟩:∃H,H=(h'.set nx (.arr .leaf [.map n])).set (nx+1) (.arr (.agg 6) [X]):=⟨_,rfl⟩;have hle:h'.le H:=by rw[hH];exact leo hd
 have C5:aK Tryz.prog 132 [v, .fn (.func 133) [] [.ptr nx .leaf 0 0, .ptr (nx+1) (.agg 6) 0 0]] H (.int .i64 (bH (fun k=>fF s (r.b.getD k default)) left)):=
  g8 _ hv _ _ _ (oK hh (yG hle)) (fun k hk=>Ad r hr s hl n es c H (hle _ _ hm1) hs nx (nx+1) (by rw[hH];simp[Ka]) (by rw[hH,hX];simp[Ka]) k (hleft k hk)) or
 have C6:aK Tryz.prog 132 [v, .fn (.func 135) [] [.ptr (nx+1) (.agg 6) 0 0]] H (.int .i64 (bH (fun k=>decide ((r.b.getD k default).k=1)) left)):=
  g8 _ hv _ _ _ (oK hh (yG hle)) (fun k hk=>Ac r (nx+1) H (by rw[hH,hX];simp[Ka]) k (hleft k hk)) or
 rw[hH] at C5 C6;unfold iS;by_cases hz:0≤bH (fun k=>fF s (r.b.getD k default)) left
 ·have g1:decide (0≤bH (fun k=>fF s (r.b.getD k default)) left)=true:=dct;refine aue (e2 hf g1) ?_;refine aC h' (leo hd) ⟨?_,rfl⟩;rw[if_pos hz];rfl
 have g1:decide (0≤bH (fun k=>fF s (r.b.getD k default)) left)=false:=dcf;refine aue (e2 hf g1) ?_;refine aC h' (leo hd) ⟨?_,rfl⟩;rw[if_neg hz];rfl
end Go.Proofs.YtgbiopfghdilnaaGreatDoor
namespace Go.Proofs.YtgbiopfghdilnaaGreatDoor
open Go.RowKit Go.Sort
attribute [local irreducible] KK
theorem kG{s vs:List ByteArray}:iR s vs=true↔∀v∈vs,v∈s:=by simp[iR,dE]
theorem sQ{s t vs:List ByteArray}(h:∀x∈s,x∈t)(ha:iR s vs=true):iR t vs=true:=kG.2 fun v hv=>h v (kG.1 ha v hv)
theorem uv{l:Li}{x:ByteArray}:x∈l.vars↔∃t∈l.ts,t.x=x∧t.x.size≠0:=by
 unfold Li.vars;rw[bv];simp
theorem jn{e:Ex}(h:(cA e).size≠0):e.ts=[e.t]∧cA e=e.t.x:=by
 unfold cA at h⊢;split at h
 ·exact absurd rfl h
 rename_i hc;rw[if_neg hc];simp only[not_or,Classical.not_not,ne_eq] at hc;rw[Ex.aBr,if_pos hc.2];exact⟨rfl,rfl⟩
theorem pg{e:Ex}{l:Li}(h:(cA e).size≠0)(hs:∀t∈e.ts,t∈l.ts):cA e∈l.vars:=by
 obtain⟨h1,h2⟩:=jn h;rw[uv];exact⟨e.t,hs _ (by rw[h1];simp),h2.symm,by rw[←h2];exact h⟩
theorem HA{l:Li}:∀t∈l.x.ts,t∈l.ts:=fun t h=>by simp[Li.ts,h]
theorem Hz{l:Li}:∀t∈l.y.ts,t∈l.ts:=fun t h=>by simp[Li.ts,h]
theorem mc{s:List ByteArray}{l:Li}(h:cU s l=true):iR s l.vars=false:=by
 unfold cU at h;simp only[KE,Qz,decide_eq_true_eq,Bool.not_eq_true'] at h;rw[←KS];intro ha;rcases h.2 with⟨⟨h1,h2⟩,_⟩|⟨⟨h1,h2⟩,_⟩
 ·exact jZ.1 h2 (kG.1 ha _ (pg h1 HA))
 exact jZ.1 h2 (kG.1 ha _ (pg h1 Hz))
def aAh(b:List Li)(s:List ByteArray):Nat:=(b.filter fun l=> !iR s l.vars).length
theorem FS(b:List Li){s t:List ByteArray}(h:∀x∈s,x∈t):aAh b t≤aAh b s:=by
 unfold aAh;induction b with
 |nil=>exact KF _
 |cons a b ih=>
  simp only[Qw];cases h1:iR s a.vars with
  |true=>rw[sQ h h1];simpa using ih
  |false=>cases iR t a.vars<;>simp<;>omega
theorem nF{b:List Li}{s:List ByteArray}{l:Li}(hl:l∈b)(h:cU s l=true):aAh b (s++l.vars)<aAh b s:=by
 have h0:=mc h;have h1:iR (s++l.vars) l.vars=true:=kG.2 fun v hv=>Km.2 (.inr hv);unfold aAh;induction b with
 |nil=>cases hl
 |cons a b ih=>
  have hm:=FS b (s:=s) (t:=s++l.vars) fun x hx=>Km.2 (.inl hx);unfold aAh at hm;simp only[Qw];rcases KD.1 hl with rfl|hl
  ·rw[h0,h1];simp;omega
  have:=ih hl;cases h2:iR s a.vars with
  |true=>rw[sQ (t:=s++l.vars) (fun x hx=>Km.2 (.inl hx)) h2];simpa using this
  |false=>cases iR (s++l.vars) a.vars<;>simp<;>omega
def eJ(b:List Li):Nat→List ByteArray→List ByteArray
 |0,s=>s
 |n+1,s=>match b.find? (cU s) with
  |some l=>eJ b n (s++l.vars)
  |none=>s
theorem aa(b:List Li):∀(n k:Nat) (s:List ByteArray),aAh b s≤n→aAh b s≤k→eJ b n s=eJ b k s
 |0,0,s,_,_=>rfl
 |0,k+1,s,h,_=>by
  unfold eJ;cases hf:b.find? (cU s) with
  |none=>rfl
  |some l=>have:=nF (Ky hf) (KW hf);omega
 |n+1,0,s,_,h=>by
  unfold eJ;cases hf:b.find? (cU s) with
  |none=>rfl
  |some l=>have:=nF (Ky hf) (KW hf);omega
 |n+1,k+1,s,h1,h2=>by
  unfold eJ;cases hf:b.find? (cU s) with
  |none=>rfl
  |some l=>
   have:=nF (Ky hf) (KW hf);exact aa b n k _ or or
def kI(b:List Li):List ByteArray:=b.flatMap fun l=>if l.k=1 then l.vars else []
def dY(r:Ru):List ByteArray:=eJ r.b (aAh r.b (kI r.b)) (kI r.b)
theorem xi{b:List Li}{s:List ByteArray}{l:Li}(hf:b.find? (cU s)=some l):eJ b (aAh b s) s=eJ b (aAh b (s++l.vars)) (s++l.vars):=by
 have hlt:=nF (Ky hf) (KW hf);obtain⟨m,hm⟩:∃m,aAh b s=m+1:=⟨aAh b s-1,or⟩;rw[hm];conv=>lhs;unfold eJ
 rw[hf];exact aa b _ _ _ or (KF _)
theorem ab{b:List Li}{s:List ByteArray}(hf:b.find? (cU s)=none)(n:Nat):eJ b n s=s:=by
 cases n with
 |zero=>rfl
 |succ n=>unfold eJ;rw[hf]
theorem vX{b:List Li}(h:∀l∈b,bG l=true):(kI b).length≤b.length*2097158:=by
 unfold kI;induction b with
 |nil=>simp
 |cons a b ih=>
  have h1:=ih fun l hl=>h l (KU _ hl);have h2:=iI (h a KZ);have h3:(if a.k=1 then a.vars else []).length≤2097158:=by
   split
   ·exact h2
   simp
  rw[List.flatMap_cons,Kz,jL,KN];omega
theorem mq(b:List Li)(i:Nat)(h:i<b.length):kI (b.take (i+1))=kI (b.take i)++(if b[i].k=1 then b[i].vars else []):=by
 unfold kI;rw[Kh h,List.flatMap_append];simp
theorem Dh{α:Type}{p:α→Bool}{b:List α}{i:Nat}(h:i<b.length)(h1:∀x∈b.take i,p x=false)(h2:p b[i]=true):b.find? p=some b[i]:=by
 have e:b=b.take i++b[i]::b.drop (i+1):=by rw[←List.drop_eq_getElem_cons h,List.take_append_drop]
 conv=>lhs;rw[e]
 rw[List.find?_append,Qq.2 (fun x hx=>by simp[h1 x hx]),Option.none_or,List.find?_cons_of_pos h2]
theorem xg(r:Ru)(hr:bT r=true)(h:Hp)(nx:Nat):aY Tryz.prog 81 [r.v] h nx fun v h' nx'=>∃n es c,v= .map n∧nx≤n∧h' n=some (.mp es c)∧gW es (dY r)∧(dY r).length≤1000000000∧Kf nx h h':=by
 refine aB L.bC6 fun hd=>?_;obtain⟨b1,b2,b3⟩:=cM hr;refine ZK ?_;refine aue (e3 Ru.v.eq_1 trs.eq_1 (@jK Li V)) ?_;refine wE ?_;refine Zn ?_;refine aue (e3 Ru.v.eq_1 trs.eq_1 (@jK Li V)) ?_
 refine aO (fun i:Nat=>aD 40 0 [(1, .ptr nx (.agg 6) 0 0),(3, .map (nx+1)),(10, .sl (.agg 17) r.o (r.b.map Li.v)),(11, .int .i64 r.b.length),(12, .int .i64 i)])
  (fun i hp nx2=>i≤r.b.length∧nx+2≤nx2∧aS hp nx2∧Kf nx h hp∧hp nx=some (.arr (.agg 6) [.agg [.str r.h.r, .sl (.agg 4) r.h.o (r.h.l.map Tr.v), .int .i64 r.g, .int .i64 r.c, .sl (.agg 17) r.o (r.b.map Li.v), .int .i64 r.at_]])∧∃es c,hp (nx+1)=some (.mp es c)∧gW es (kI (r.b.take i)))
  (fun i=>r.b.length-i) 0 ⟨KG _,Zw,by exact dmo hd,by exact kep Hp.same.aAn,by simp only[go_sem,reduceIte,jA,jB,jC,jD,reduceCtorEq,jE,jF],[],0,by simp only[go_sem,reduceIte,jA,jB,jC,jD,reduceCtorEq,jE,jF],by exact mf⟩ (by simp only[WkL,aD,jH,jI,jJ,jK,go_sem,reduceIte,jA,jB,jC,jD,reduceCtorEq,jE,jF]) ?_
 rintro i hp nx2 ⟨hi,hnx,hdm,hsm,hbx,es,c,hme,hse⟩;generalize hQ:aV _ _ _ _ _=Q0;refine Zk ?_;rcases KH i r.b.length with hlt|hge
 ·have hc:decide ((i:Int)<(r.b.length:Int))=true:=dct;have f1:(nx=nx2)=False:=fls;have f2:(nx+1=nx2)=False:=fls;have hg:=aJ Li.v r.b i hlt;have hw:IntKind.i64.wrap ((i:Int)+1)=((i+1:Nat):Int):=wrp;have htk:=mq r.b i hlt;have hrl:=b3 r.b[i] (Ki _);have hpl:=vX (b:=r.b.take i) fun l hl=>b3 l (KM hl);have hml:(r.b.take i).length*2097158≤8*2097158:=Kp _ (by rw[KA];omega);generalize r.b[i]=l at hg htk hrl;have hvl:=iI hrl;have hf:=Li.aAA l;obtain⟨o1,ho1⟩:=bQ .leaf (l.vars.map V.str);have C1:∀h:Hp,aK Tryz.prog 40 [l.v] h (.sl .leaf o1 (l.vars.map V.str)):=fun h=>ho1▸xH l hrl h;obtain⟨T,hT,hk⟩:∃T,l.v= .agg T∧T.getD 0 (.tup [])= .int .i64 l.k:=⟨_,rfl,rfl⟩;rw[hT] at hg hf C1;by_cases k1:l.k=1
  ·have g1:(l.k==1)=true:=bqt;rw[if_pos k1] at htk;refine aue (e9 hc hg hlt hf hk g1 (@jK Li V) jG hw) ?_;refine bF ((tO o1 l.vars (kI (r.b.take i)) or (nx+1) es c _ (nx2+2) (by simp only[hme,f2,go_sem,reduceIte,jA,jB,jC,jD,reduceCtorEq,jE,jF]) hse).dom.mono ?_);rintro v h2 nx3 aAb ⟨⟨es2,c2,q1,q2,q3⟩,hd2,_⟩;unfold cY;refine Zn ?_;refine aue (e2 hw hc) ?_;rw[←hQ];refine aF (i+1) or ⟨hlt,or,hd2,fun m hm=>?_,?_,es2,c2,q1,by rw[htk];exact q2⟩ (by simp only[WkL,aD,jH,jI,jJ,go_sem,reduceIte,jA,jB,jC,jD,reduceCtorEq,jE,jF])
   ·rw[q3 m or or,←hsm m hm];have f3:(m=nx2)=False:=fls;simp only[Ka,f3,if_false]
   rw[q3 nx or or];simp only[hbx,f1,go_sem,reduceIte,jA,jB,jC,jD,reduceCtorEq,jE,jF]
  have g1:(l.k==1)=false:=bqf;rw[if_neg k1,KJ] at htk;refine aue (e9 hc hg hlt hf hk g1 (@jK Li V) jG hw) ?_;rw[←hQ];refine aF (i+1) or ⟨hlt,or,dmo hdm,kep hsm,?_,es,c,?_,by rw[htk];exact hse⟩ (by simp only[WkL,aD,jH,jI,jJ,go_sem,reduceIte,jA,jB,jC,jD,reduceCtorEq,jE,jF])
  ·simp only[hbx,f1,go_sem,reduceIte,jA,jB,jC,jD,reduceCtorEq,jE,jF]
  simp only[hme,f2,go_sem,reduceIte,jA,jB,jC,jD,reduceCtorEq,jE,jF]
 have hc:decide ((i:Int)<(r.b.length:Int))=false:=dcf;refine aue hc ?_;rw[←hQ];refine au ?_;rw[Kt or] at hse;have hpl:=vX (b:=r.b) b3;have hml:r.b.length*2097158≤8*2097158:=Kp _ b2
 --again and again
 refine aO (fun s:List ByteArray=>aD 40 0 [(1, .ptr nx (.agg 6) 0 0),(3, .map (nx+1))])
  (fun s hp nx2=>nx+2≤nx2∧aS hp nx2∧Kf nx h hp∧hp nx=some (.arr (.agg 6) [.agg [.str r.h.r, .sl (.agg 4) r.h.o (r.h.l.map Tr.v), .int .i64 r.g, .int .i64 r.c, .sl (.agg 17) r.o (r.b.map Li.v), .int .i64 r.at_]])∧(∃es c,hp (nx+1)=some (.mp es c)∧gW es s)∧dY r=eJ r.b (aAh r.b s) s∧s.length+aAh r.b s*2097158≤16*2097158)
  (fun s=>aAh r.b s) (kI r.b) ⟨hnx,hdm,hsm,hbx,⟨es,c,hme,hse⟩,rfl,?_⟩ (by simp only[WkL,aD,jH,jI,jJ,go_sem,reduceIte,jA,jB,jC,jD,reduceCtorEq,jE,jF]) ?_
 ·have:aAh r.b (kI r.b)*2097158≤8*2097158:=Kp _ (QE (Ql ..) b2);omega
 rintro s hp nx2 ⟨hnx,hdm,hsm,hbx,⟨es,c,hme,hse⟩,aAk,hsl⟩;generalize hQ:aV _ _ _ _ _=Q0;refine Zk ?_;have n1:nx<nx2:=or;refine aue (e3 hbx n1 (@jK Li V)) ?_
 refine aO (fun i:Nat=>aD 40 0 [(1, .ptr nx (.agg 6) 0 0),(3, .map (nx+1)),(25, .sl (.agg 17) r.o (r.b.map Li.v)),(26, .int .i64 r.b.length),(27, .int .i64 i)])
  (fun i hp nx2=>i≤r.b.length∧nx+2≤nx2∧aS hp nx2∧Kf nx h hp∧hp nx=some (.arr (.agg 6) [.agg [.str r.h.r, .sl (.agg 4) r.h.o (r.h.l.map Tr.v), .int .i64 r.g, .int .i64 r.c, .sl (.agg 17) r.o (r.b.map Li.v), .int .i64 r.at_]])∧hp (nx+1)=some (.mp es c)∧∀l∈r.b.take i,cU s l=false)
  (fun i=>r.b.length-i) 0 ⟨KG _,hnx,hdm,hsm,hbx,hme,Zm⟩ (by simp only[WkL,aD,jH,jI,jJ,jK,go_sem,reduceIte,jA,jB,jC,jD,reduceCtorEq,jE,jF]) ?_
 rintro i hp nx2 ⟨hi,hnx,hdm,hsm,hbx,hme,hno⟩;generalize hQ2:aV _ _ _ _ _=Q2;refine Zk ?_;rcases KH i r.b.length with hlt|hge
 ·have hc:decide ((i:Int)<(r.b.length:Int))=true:=dct;have f1:(nx=nx2)=False:=fls;have f2:(nx+1=nx2)=False:=fls;have hg:=aJ Li.v r.b i hlt;have hw:IntKind.i64.wrap ((i:Int)+1)=((i+1:Nat):Int):=wrp;have hrl:=b3 r.b[i] (Ki _);obtain⟨l,hl⟩:∃l,r.b[i]=l:=⟨_,rfl⟩;have hvl:=iI hrl;rw[hl] at hg hrl hvl;have hf:=Li.aAA l;obtain⟨o1,ho1⟩:=bQ .leaf (l.vars.map V.str);have C1:∀h:Hp,aK Tryz.prog 40 [l.v] h (.sl .leaf o1 (l.vars.map V.str)):=fun h=>ho1▸xH l hrl h;have S:∀h:Hp,h (nx+1)=some (.mp es c)→aK Tryz.prog 131 [.map (nx+1),l.v] h (.bool (cU s l)):=fun h hm=>dk s or (nx+1) es c h hm hse l hrl;obtain⟨X,hX⟩:∃X,l.v=X:=⟨_,rfl⟩;rw[hX] at hg hf C1 S;refine aue (e7 hc hg hlt hf (@jK Li V) jG hw) ?_;refine aI (S _ (by simp only[hme,f2,go_sem,reduceIte,jA,jB,jC,jD,reduceCtorEq,jE,jF])) rfl (aL _) ?_;refine Zn ?_;cases hss:cU s l with
  |true=>
   have hfd:=Dh (p:=cU s) hlt hno (by rw[hl];exact hss);rw[hl] at hfd;have bAp:=nF (Ky hfd) hss;refine aue hf ?_;refine bF ((tO o1 l.vars s or (nx+1) es c _ (nx2+2) (by simp only[hme,f2,go_sem,reduceIte,jA,jB,jC,jD,reduceCtorEq,jE,jF]) hse).dom.mono ?_);rintro v h2 nx3 aAb ⟨⟨es2,c2,q1,q2,q3⟩,hd2,_⟩;unfold cY;refine Zn ?_;refine au ?_;rw[←hQ2];refine au ?_;rw[←hQ];refine aF (s++l.vars) bAp ⟨or,hd2,fun m hm=>?_,?_,⟨es2,c2,q1,q2⟩,by rw[aAk];exact xi hfd,?_⟩ (by simp only[WkL,aD,jH,jI,jJ,go_sem,reduceIte,jA,jB,jC,jD,reduceCtorEq,jE,jF])
   ·rw[q3 m or or,←hsm m hm];have f3:(m=nx2)=False:=fls;simp only[Ka,f3,if_false]
   ·rw[q3 nx or or];simp only[hbx,f1,go_sem,reduceIte,jA,jB,jC,jD,reduceCtorEq,jE,jF]
   rw[Kz];have:=Kp 2097158 bAp;omega
  |false=>
   refine aue hw ?_;rw[←hQ2];refine aF (i+1) or ⟨hlt,or,dmo hdm,kep hsm,?_,?_,fun x hx=>?_⟩ (by simp only[WkL,aD,jH,jI,jJ,go_sem,reduceIte,jA,jB,jC,jD,reduceCtorEq,jE,jF])
   ·simp only[hbx,f1,go_sem,reduceIte,jA,jB,jC,jD,reduceCtorEq,jE,jF]
   ·simp only[hme,f2,go_sem,reduceIte,jA,jB,jC,jD,reduceCtorEq,jE,jF]
   rw[Kh hlt,Km,Qr] at hx;rcases hx with hx|rfl
   ·exact hno x hx
   rw[hl];exact hss
 have hc:decide ((i:Int)<(r.b.length:Int))=false:=dcf;refine aue hc ?_;rw[←hQ2];refine au ?_;rw[←hQ];refine au ?_;rw[Kt or] at hno;have hbl:dY r=s:=by rw[aAk];exact ab (Qq.2 fun x hx=>by simp[hno x hx]) _
 exact aC hp (Kd _) ⟨nx+1,es,c,rfl,or,hme,by rw[hbl];exact hse,by rw[hbl];omega,hsm⟩
end Go.Proofs.YtgbiopfghdilnaaGreatDoor
namespace Go.Proofs.YtgbiopfghdilnaaGreatDoor
open Go.RowKit Go.Sort
attribute [local irreducible] KK
theorem pm(r:Ru)(hr:bT r=true)(h:Hp):aK Tryz.prog 37 [r.v] h (.sl .leaf (frO r.vars) ((cL r (dY r) false).map V.str)):=by
 have hnm:∀L,(V.sl .leaf (frO r.vars) ((cL r (dY r) false).map V.str)).names L:=fun L=>⟨fun m e=>(by unfold frO at e;split at e<;>cases e),aT (f:=V.str) (fun _=>trivial) _⟩;refine aH hnm fun h' nx hh=>aB L.bEF fun hd=>?_;have hd:aS h' nx:=hd;have hB:=fun h nx=>xg r hr h nx;have hS:=fun n es c h hm hs=>dr r hr (dY r) n es c h hm hs false;obtain⟨X,hX⟩:∃X,r.v=X:=⟨_,rfl⟩;have hf:X.fits (.agg 6)=true:=by rw[←hX];rfl
 obtain⟨res,aBE⟩:∃res,V.sl .leaf (frO r.vars) ((cL r (dY r) false).map V.str)=res:=⟨_,rfl⟩;rw[hX] at hB hS⊢;rw[aBE] at hS⊢;simp only[List.length_cons,List.length_nil,Qb,Qc,List.replicate_succ,List.replicate_zero,List.cons_append,Qy,Kb];generalize hDC:aR.draw _ _ _=DC;refine aue hf ?_;rw[←hDC]
 obtain⟨I,hI⟩:∃I:(Nat→Bool)→St→Prop,∀D s',I D s'↔∃c2 c3 c4 c5 c6,s'.sl=[X, .ptr nx (.agg 6) 0 0,c2,c3,c4,c5,c6]∧h'.le s'.h∧aS s'.h s'.nx∧nx<s'.nx∧s'.h nx=some (.arr (.agg 6) [X])∧(D 0=true→c3=X)∧(D 1=true→c4=X)∧
  (D 2=true→∃n es c,c5= .map n∧s'.h n=some (.mp es c)∧gW es (dY r))∧(D 3=true→c6=res)∧(D 4=true→c2=res):=⟨_,fun _ _=>Iff.rfl⟩
 refine oG ⟨I,?_,?_,?_⟩
 ·exact(hI _ _).2 ⟨_,_,_,_,_,rfl,leo hd,dmo hd,Zw,by simp only[go_sem,reduceIte,Qb,Qc,Qu,Qf,reduceCtorEq,Qg,Qj],fun h=>(by cases h),fun h=>(by cases h),fun h=>(by cases h),fun h=>(by cases h),fun h=>(by cases h)⟩
 ·rintro D i o aAF ⟨sl,h1,nx1⟩ hi hDi aAZ hcl hID;obtain⟨c2,c3,c4,c5,c6,q1,q2,q3,q4,q5,d0,d1,d2,d3,d4⟩:=(hI _ _).1 hID;dsimp only at q1 q2 q3 q4 q5 d2;subst q1;match i,hi with
  |0,hi=>
   cases hi;refine aue (e3 q5 hf q4) ?_;refine(hI _ _).2 ⟨_,_,_,_,_,rfl,q2,q3,q4,q5,fun _=>rfl,d1,d2,d3,d4⟩
  |1,hi=>
   cases hi;refine aue (e3 q5 hf q4) ?_;refine(hI _ _).2 ⟨_,_,_,_,_,rfl,q2,q3,q4,q5,d0,fun _=>rfl,d2,d3,d4⟩
  |2,hi=>
   cases hi;obtain rfl:=d1 (aAZ 1 Zm);refine bF ((hB h1 nx1).dom.mono ?_);rintro v h2 nx2 aAb ⟨⟨n,es,c,rfl,w1,w2,w3,w4,w5⟩,hd2,_⟩;unfold cY;simp only[go_sem,reduceIte,Qb,Qc,Qu,Qf,reduceCtorEq,Qg,Qj];refine au ?_;refine(hI _ _).2 ⟨_,_,_,_,_,rfl,w5.le (hd.up (Nat.le_of_lt q4)) q2,hd2,Qt q4 aAb,(w5 nx q4).trans q5,d0,fun _=>rfl,fun _=>⟨n,es,c,rfl,w2,w3⟩,d3,d4⟩
  |3,hi=>
   cases hi;obtain rfl:=d0 (aAZ 0 Zm);obtain⟨n,es,c,rfl,w2,w3⟩:=d2 (aAZ 2 Zm);refine aI (hS n es c h1 w2 w3) rfl (aL _) ?_;simp only[go_sem,reduceIte,Qb,Qc,Qu,Qf,reduceCtorEq,Qg,Qj];refine au ?_;refine(hI _ _).2 ⟨_,_,_,_,_,rfl,q2,q3,q4,q5,fun _=>rfl,d1,fun _=>⟨n,es,c,rfl,w2,w3⟩,fun _=>rfl,d4⟩
  |4,hi=>
   cases hi;obtain rfl:=d3 (aAZ 3 Zm);refine au ?_;refine(hI _ _).2 ⟨_,_,_,_,_,rfl,q2,q3,q4,q5,d0,d1,d2,fun _=>rfl,fun _=>rfl⟩
  |n+5,hi=>cases hi
 rintro D ⟨sl,h1,nx1⟩ hD hID;obtain⟨c2,c3,c4,c5,c6,q1,q2,q3,q4,q5,d0,d1,d2,d3,d4⟩:=(hI _ _).1 hID;dsimp only at q1 q2;subst q1;obtain rfl:=d4 (hD 4 ZM);refine au ?_;exact aC h' q2 ⟨rfl,rfl⟩
end Go.Proofs.YtgbiopfghdilnaaGreatDoor
namespace Go.Proofs.YtgbiopfghdilnaaGreatDoor
open Go.RowKit Go.Sort Go.Shelf
def Gv{α:Type}(P:Program)(gf:Nat)(caps:List V)(hb:Hp)(e:α→List V)(ok:List α→α→Prop)(fin:List α→Prop):Prop:=
 ∀(yn n0:Nat) (J:Hp→List α→Hp→Nat→Prop) (D:Hp→Nat→Prop),
  (∀F i h nx,J F i h nx→F.le h)→(∀F i h nx nx',J F i h nx→nx≤nx'→J F i h nx')→
  (∀F i h nx b,J F i h nx→aS h nx→n0≤nx→J (F.set nx b) i (h.set nx b) (nx+1))→
  (∀F i h nx n b b',J F i h nx→n0≤n→F n=some b→J (F.set n b') i (h.set n b') nx)→(∀h nx nx',D h nx→nx≤nx'→D h nx')→
  (∀F i x,ok i x→∀h nx,J F i h nx→aS h nx→n0≤nx→dZ P yn (e x) h nx fun v h' nx'=>(v= .bool true∧J F (i++[x]) h' nx')∨(v= .bool false∧D h' nx'))→
  ∀F h,J F [] h n0→hb.has F→aS h n0→aY P gf (.yld yn::caps) h n0 fun _ h' nx'=>(∃F' i,F.le F'∧fin i∧J F' i h' nx')∨D h' nx'
theorem aw{α:Type}{e0:α→List V}{ok:List α→α→Prop}{fin:List α→Prop}{P:Program}{g:aN}{ps:List Nat}{asg b:aR}{Q:bN→St→Prop}{s:St}{gf:Nat}{caps:List V}{hb:Hp}(hit:Gv P gf caps hb e0 ok fin)(hg:g.ev s.sl= .fn (.func gf) [] caps)
 (hlen:∀x,(e0 x).length=ps.length) (hd:aS s.h s.nx) (I:Hp→List α→Hp→Nat→Prop) (E:bN→Hp→Nat→Prop)
 (hlI:∀F i h nx,I F i h nx→F.le h) (hnI:∀F i h nx nx',I F i h nx→nx≤nx'→I F i h nx') (hsI:∀F i h nx b,I F i h nx→F s.nx=none→I F i (h.set s.nx b) nx)
 (haI:∀F i h nx b,I F i h nx→aS h nx→s.nx<nx→I (F.set nx b) i (h.set nx b) (nx+1)) (huI:∀F i h nx n b b',I F i h nx→s.nx<n→F n=some b→I (F.set n b') i (h.set n b') nx)
 (hnE:∀e h nx nx',E e h nx→nx≤nx'→E e h nx') (hsE:∀e h nx b,E e h nx→E e (h.set s.nx b) nx)
 (F0:Hp) (h0:I F0 [] s.h (s.nx+1)) (hb0:hb.has F0) (hF0:F0 s.nx=none)
 (aBv:∀F i x,ok i x→∀h nx X,I F i h nx→F s.nx=none→s.nx<nx→h s.nx=some X→aS h nx→
   lwp P asg (Ff s.nx X fun s1=>∀X',lwp P b (mR s.nx X' (I F (i++[x])) E) ⟨s1.sl,s1.h.set s.nx X',s1.nx⟩) ⟨aAX s.sl ps (e0 x),h,nx⟩)
 (aCi:∀F i,fin i→F0.le F→∀h nx,I F i h nx→s.nx<nx→aS h nx→Q .normal ⟨s.sl,h.del s.nx,nx⟩)
 (hex:∀e h nx,E e h nx→s.nx<nx→aS h nx→(e= .ret∨∃id,e= .exit id)→Q e ⟨s.sl,h.del s.nx,nx⟩):lwp P (.range g ps asg b) Q s:=by
 simp only[lwp,hg];intro rcd U hpl hY;have aAR:∀(h:Hp) (b:Blk),(h.set s.nx b) s.nx=some b:=fun h b=>by simp[Ka]
 refine((hit s.nx (s.nx+1) (fun F i h nx=>I F i h nx∧h s.nx=some (.obj (rcd .ready none) U)∧F s.nx=none)
  (fun h nx=>(h s.nx=some (.obj (rcd .done (some .ret)) U)∧E .ret h nx)∨∃id,h s.nx=some (.obj (rcd .done (some (.exit id))) U)∧E (.exit id) h nx)
  (fun F i h nx hj=>hlI F i h nx hj.1) (fun F i h nx nx' hj hle=>⟨hnI F i h nx nx' hj.1 hle,hj.2⟩)
  (fun F i h nx b hj hdm hle=>⟨haI F i h nx b hj.1 hdm or,by simp only[Ka];rw[if_neg or];exact hj.2.1,by simp only[Ka];rw[if_neg or];exact hj.2.2⟩)
  (fun F i h nx n b b' hj hle hn=>⟨huI F i h nx n b b' hj.1 or hn,by simp only[Ka];rw[if_neg or];exact hj.2.1,by simp only[Ka];rw[if_neg or];exact hj.2.2⟩)
  (fun h nx nx' hD hle=>hD.imp (fun hD=>⟨hD.1,hnE _ _ _ _ hD.2 hle⟩) (fun⟨id,hD⟩=>⟨id,hD.1,hnE _ _ _ _ hD.2 hle⟩)) ?_ F0 _ ⟨hsI _ _ _ _ _ h0 hF0,aAR _ _,hF0⟩ hb0 ?_).dom).mono ?_
 ·rintro F i x hi h nx ⟨hI,hr,hFn⟩ aBW aBy;refine hY (e0 x) h nx _ (hlen _) hr ?_;refine mW ?_ (aBv F i x hi h nx _ hI hFn (aBW _ _ hr) hr aBW);intro e s1 hq;cases e with
  |exit id=>exact hq.elim
  |ret=>exact hq.elim
  |normal=>
   refine⟨hq.1,mW ?_ (hq.2 (.obj (rcd .busy none) U))⟩;intro e s2 hq2;cases e with
   |normal=>exact⟨hq2.1, .inl ⟨rfl,hsI _ _ _ _ _ hq2.2 hFn,aAR _ _,hFn⟩⟩
   |ret=>exact⟨hq2.1, .inr ⟨rfl, .inl ⟨aAR _ _,hsE _ _ _ _ hq2.2⟩⟩⟩
   |exit id=>exact⟨hq2.1, .inr ⟨rfl, .inr ⟨id,aAR _ _,hsE _ _ _ _ hq2.2⟩⟩⟩
 ·intro m b hm;unfold Ka at hm;split at hm
  ·omega
  have:=hd m b hm;omega
 rintro v h' nx' _ ⟨(⟨F',i,hFF,aAk,hI,hr,_⟩|(⟨hr,hE⟩|⟨id,hr,hE⟩)),aBW,hle⟩
 ·exact .inl ⟨hr,aCi F' i aAk hFF _ _ hI or aBW⟩
 ·exact .inr (.inl ⟨hr,hex _ _ _ hE or aBW (.inl rfl)⟩)
 exact .inr (.inr ⟨id,hr,hex _ _ _ hE or aBW (.inr ⟨id,rfl⟩)⟩)
section
variable{P:Program}{k:Sh}{α:Type}(e:α→V)(aAL:∀x,(e x).fits k=true)
include aAL
end
section
variable{P:Program}{α:Type}(e:α→V)
end
end Go.Proofs.YtgbiopfghdilnaaGreatDoor
namespace Go.Proofs.YtgbiopfghdilnaaGreatDoor
open Go.RowKit Go.Shelf
section
variable{P:Program}{Q:St→Prop}{s:St}{dst:Option Nat}{r:List aA}{x:aN}
theorem Em{n c:Nat}{es:List ME}(hx:x.ev s.sl= .map n)(hn:s.h n=some (.mp es c))(h:bA P r Q ⟨bO s.sl dst (.ptr s.nx .leaf 0 0),s.h.set s.nx (.mit n c [] c),s.nx+1⟩):bA P (⟨dst,none, .mp (.rng x)⟩::r) Q s:=by
 unfold bA;simp only[LOp.run,LOp.sem,MOp.sem,hx,hn];exact h
theorem En{it m c since last:Nat}{seen:List Nat}{es:List ME}(hx:x.ev s.sl= .ptr it .leaf 0 0)(hi:s.h it=some (.mit m since seen last))(hm:s.h m=some (.mp es c))(hb:∀e∈es,e.b<since)(hl:since≤last)
 (h1:∀e∈es,e.b∉seen→bA P r Q ⟨bO s.sl dst (.tup [.bool true,e.k,e.v]),s.h.set it (.mit m since (seen++[e.b]) c),s.nx+1⟩) (h2:(∀e∈es,e.b∈seen)→bA P r Q ⟨bO s.sl dst (.tup [.bool false]),s.h,s.nx+1⟩):bA P (⟨dst,none, .mp (.nxt x)⟩::r) Q s:=by
 unfold bA;simp only[LOp.run,LOp.sem,MOp.sem,hx,hi,hm];exact⟨hb,hl,h1,h2⟩
theorem Ep{it m c since:Nat}{seen:List Nat}{es:List ME}(hx:x.ev s.sl= .ptr it .leaf 0 0)(hi:s.h it=some (.mit m since seen c))(hm:s.h m=some (.mp es c)){b:Nat}{e:ME}(hs:seen.getLast?=some b)(he:es.find? (fun e=>e.b==b)=some e)
 (h:bA P r Q ⟨bO s.sl dst (.tup [e.k,e.v]),s.h,s.nx+1⟩):bA P (⟨dst,none, .mp (.key x)⟩::r) Q s:=by
 unfold bA;simp only[LOp.run,LOp.sem,MOp.sem,hx,hi,hm];exact⟨trivial,b,e,hs,he,h⟩
end
section
variable{β:Type}(bn:β→Nat)
theorem G0{l:List β}(hn:(l.map bn).Nodup){x y:β}(hx:x∈l)(hy:y∈l)(h:bn x=bn y):x=y:=by
 induction l with
 |nil=>cases hx
 |cons a l ih=>
  rw[Kv,KX] at hn;rcases KD.1 hx with e1|h1
  ·rcases KD.1 hy with e2|h2
   ·rw[e1,e2]
   exact absurd (KI.2 ⟨y,h2,by rw[←h,e1]⟩) hn.1
  rcases KD.1 hy with e2|h2
  ·exact absurd (KI.2 ⟨x,h1,by rw[h,e2]⟩) hn.1
  exact ih hn.2 h1 h2
theorem pB{l:List β}(hn:(l.map bn).Nodup):l.Nodup:=by
 refine(List.pairwise_map.1 hn).imp ?_;rintro a b h rfl;exact h rfl
theorem FP{l js:List β}(hl:(l.map bn).Nodup)(hj:(js.map bn).Nodup)(hs:∀y∈js,y∈l)(h:∀y∈l,bn y∈js.map bn):js.Perm l:=by
 rw[List.perm_ext_iff_of_nodup (pB bn hj) (pB bn hl)];intro y;refine⟨hs y,fun hy=>?_⟩;obtain⟨z,hz,hzy⟩:=KI.1 (h y hy);rw[G0 bn hl hy (hs z hz) hzy.symm];exact hz
theorem vZ:∀{js l:List β},js.Nodup→(∀y∈js,y∈l)→js.length≤l.length
 | [],_,_,_=>KG _
 |y::js,l,hn,hs=>by
  obtain⟨a,b,rfl⟩:=List.append_of_mem (hs y (KZ ..));have hn:=KX.1 hn;have:=vZ (l:=a++b) hn.2 (fun z hz=>by
   have:=hs z (KU _ hz);rw[Km,KD] at this;rcases this with h|h|h
   ·exact Km.2 (.inl h)
   ·subst h;exact absurd hz hn.1
   exact Km.2 (.inr h))
  simp only[Kz,jL] at this⊢;omega
theorem Cv{l js:List β}(hj:(js.map bn).Nodup)(hs:∀y∈js,y∈l){y:β}(hy:y∈l)(hn:bn y∉js.map bn):js.length<l.length:=by
 have:=vZ (js:=y::js) (l:=l) (KX.2 ⟨fun h=>hn (KI.2 ⟨y,h,rfl⟩),pB bn hj⟩) (fun z hz=>by
  rcases KD.1 hz with rfl|hz
  ·exact hy
  exact hs z hz)
 simp only[jL] at this;omega
theorem Ed{js:List β}(hj:(js.map bn).Nodup){y:β}(hn:bn y∉js.map bn):((js++[y]).map bn).Nodup:=by
 rw[Ko,List.nodup_append];refine⟨hj,Zm,?_⟩;intro a ha b hb hab;simp only[Kv,Kx,Qr] at hb;subst hab;subst hb;exact hn ha
end
theorem F7{β:Type}(me:β→ME){l:List β}(hn:(l.map fun y=>(me y).b).Nodup){y:β}(hy:y∈l):(l.map me).find? (fun e=>e.b==(me y).b)=some (me y):=by
 induction l with
 |nil=>cases hy
 |cons a l ih=>
  rw[Kv,KX] at hn;rw[Kv,List.find?_cons];rcases KD.1 hy with rfl|hy
  ·simp
  have:((me a).b==(me y).b)=false:=by
   simp only[beq_eq_false_iff_ne,ne_eq];exact fun h=>hn.1 (KI.2 ⟨y,hy,h.symm⟩)
  rw[this];exact ih hn.2 hy
namespace LB
end LB
attribute [local irreducible] KK
end Go.Proofs.YtgbiopfghdilnaaGreatDoor
namespace Go.Proofs.YtgbiopfghdilnaaGreatDoor
open Go.RowKit Go.Sort
attribute [local irreducible] KK
theorem il{α:Type}(p:α→Bool)(l:List α):bH p l=-1∨∃i:Nat,bH p l=i∧i<l.length:=by
 unfold bH;cases h:l.findIdx? p with
 |none=>exact .inl rfl
 |some i=>
  rw[KR] at h;exact .inr ⟨i,rfl,h.1⟩
theorem ut(r:Ru)(s:List ByteArray)(left:List Nat):iS r s left=-1∨∃i:Nat,iS r s left=i∧i<left.length:=by
 unfold iS;split
 ·rename_i h;rcases il (fun k=>fF s (r.b.getD k default)) left with e|e
  ·omega
  exact .inr e
 exact il _ _
def gI(r:Ru):Nat→List ByteArray→List Nat→List (Nat×List ByteArray)
 |0,_,_=>[]
 |n+1,s,left=>if iS r s left<0 then [] else
  (left.getD (iS r s left).toNat 0,cL r (s++(r.b.getD (left.getD (iS r s left).toNat 0) default).vars) true)::gI r n (s++(r.b.getD (left.getD (iS r s left).toNat 0) default).vars) (left.eraseIdx (iS r s left).toNat)
def nM(r:Ru):List (Nat×List ByteArray):=gI r r.b.length [] (Kw r.b.length)
def cO(r:Ru):List Nat:=(nM r).map Qk
theorem zD{r:Ru}{s:List ByteArray}{left:List Nat}(h:iS r s left<0):gI r left.length s left=[]:=by
 cases e:left.length with
 |zero=>rfl
 |succ n=>unfold gI;rw[if_pos h]
theorem zC{r:Ru}{s:List ByteArray}{left:List Nat}{i:Nat}(h:iS r s left=i)(hi:i<left.length):gI r left.length s left=(left.getD i 0,cL r (s++(r.b.getD (left.getD i 0) default).vars) true)::gI r (left.eraseIdx i).length (s++(r.b.getD (left.getD i 0) default).vars) (left.eraseIdx i):=by
 obtain⟨n,hn⟩:∃n,left.length=n+1:=⟨left.length-1,or⟩;have e:(left.eraseIdx i).length=n:=by rw[Qa hi];omega
 rw[hn,e];conv=>lhs;unfold gI
 rw[h,if_neg or,jG]
def DM(r:Ru)(p:Nat×List ByteArray):List V:=[.int .i64 p.1, .sl .leaf (frO r.vars) (p.2.map V.str)]
theorem yy(r:Ru)(hr:bT r=true):Gv Tryz.prog 83 [.ept (.agg 6) [r.v] 0 0] Hp.none (DM r) (fun i x=>∃l,nM r=i++x::l) (fun i=>i=nM r):=by
 intro yn n0 J D hJF hJn hJa hJu hDn hy F0 h0 hj0 _ aHW;refine aB L.bC5 fun hd=>?_;obtain⟨b1,b2,b3⟩:=cM hr;refine ZK ?_;refine aue (e3 Ru.v.eq_1 trs.eq_1 (@jK Li V)) ?_;refine wE ?_;refine Zn ?_;refine aue (e3 Ru.v.eq_1 trs.eq_1 (@jK Li V)) ?_
 --the places
 have hj1:=hJa F0 [] h0 n0 (.mp [] 0) hj0 aHW (KF _);have hlr:(Kw r.b.length).length=r.b.length:=Qv
 refine aO (fun q:Nat×V=>aD 50 0 [(0, .yld yn),(1, .ept (.agg 6) [r.v] 0 0),(3, .map n0),(4,q.2),(10, .sl (.agg 17) r.o (r.b.map Li.v)),(11, .int .i64 r.b.length),(12, .int .i64 q.1)])
  (fun q hp nx1=>q.1≤r.b.length∧n0+1≤nx1∧aS hp nx1∧Kf (n0+1) (h0.set n0 (.mp [] 0)) hp∧OwL hp (n0+1) .leaf ((Kw q.1).map kV) q.2)
  (fun q=>r.b.length-q.1) (0, .sl .leaf .nil []) ⟨KG _,Zw,dmo aHW,by exact kep Hp.same.aAn, .inl ⟨rfl,rfl⟩⟩ (by simp only[WkL,aD,jH,jI,jJ,jK,Ru.v.eq_1,go_sem,reduceIte,jA,jB,jC,jD,reduceCtorEq,jE,jF]) ?_
 rintro⟨i,v⟩ hp nx1 ⟨hi,hnx,hdm,hsm,aBF⟩;generalize hQ:aV _ _ _ _ _=Q0;dsimp only at hi aBF;refine Zk ?_;rcases KH i r.b.length with hlt|hge
 ·have hc:decide ((i:Int)<(r.b.length:Int))=true:=dct;have hw:IntKind.i64.wrap ((i:Int)+1)=((i+1:Nat):Int):=wrp;have hrs:(Kw (i+1)).map kV=(Kw i).map kV++[.int .i64 i]:=by rw[List.range_succ,Ko];rfl
  rcases aBF with⟨q1,rfl⟩|⟨q1,id,q2,rfl,q3⟩
  ·have hi0:i=0:=by
    have:=congrArg QG q1;simpa using this
   subst hi0;refine aun (e2 hc hw) ?_;refine iK rfl rfl Zm (by simp only[jL,jM];omega) ?_;refine Zn ?_;refine aue hw ?_;rw[←hQ];refine aF (0+1, .rs (nx1+1) .leaf 0 1) Zw ⟨hlt,or,dmo hdm,kep hsm, .inr ⟨Zm,nx1+1,or,Zm,by rw[hrs];simp only[go_sem,reduceIte,jA,jB,jC,jD,reduceCtorEq,jE,jF];rfl⟩⟩ (by simp only[WkL,aD,jH,jI,jJ,go_sem,reduceIte,jA,jB,jC,jD,reduceCtorEq,jE,jF])
  have hid:id<nx1:=hdm _ _ q3;have hlm:(Kw i).length=i:=Qv;have htk:((Kw i).map kV).take i=(Kw i).map kV:=Kt Zm;simp only[jK,hlm];refine aue (e7 hc hw q3 hid hlm htk b2) ?_;rw[←hQ];refine aF (i+1, .rs (nx1+1) .leaf 0 (i+1)) Zw ⟨hlt,or,dmo hdm,kep hsm, .inr ⟨Zm,nx1+1,or,Zm,by rw[hrs];simp only[go_sem,reduceIte,jA,jB,jC,jD,reduceCtorEq,jE,jF]⟩⟩ (by simp only[WkL,aD,jH,jI,jJ,go_sem,reduceIte,jA,jB,jC,jD,reduceCtorEq,jE,jF])
 have hc:decide ((i:Int)<(r.b.length:Int))=false:=dcf;have hib:i=r.b.length:=or;subst hib;refine aue hc ?_;rw[←hQ];refine au ?_;have aAx:∀{m b},(h0.set n0 (.mp [] 0)) m=some b→hp m=some b:=fun{m b} e=>by
  have:m<n0+1:=(aS.aRW (aHW.up (QH _)) (Qx _) _) m b e;rw[hsm m this];exact e
 have hpl:∃F hj,F0.le F∧J F [] hj nx1∧hj.le hp∧F n0=some (.mp [] 0)∧PlL F (n0+1) (Kw r.b.length) v:=by
  have hF1:F0.le (F0.set n0 (.mp [] 0)):=iP (Kd _) (aS.none (aHW.le (hJF _ _ _ _ hj0)) (KF _)) _;rcases aBF with⟨q1,rfl⟩|⟨q1,id,q2,rfl,q3⟩
  ·exact⟨_,_,hF1,hJn _ _ _ _ _ hj1 hnx,fun m b e=>aAx e,by simp[Ka], .inl ⟨by simpa using q1,rfl⟩⟩
  have hid:id<nx1:=hdm _ _ q3;have hd1:aS (h0.set n0 (.mp [] 0)) (n0+1):=aS.aRW (aHW.up (QH _)) (Qx _) _;have hj2:=hJa _ _ _ _ (.arr .leaf ((Kw r.b.length).map kV)) (hJn _ _ _ _ _ hj1 q2) (hd1.up q2) or;have hFd:aS (F0.set n0 (.mp [] 0)) (n0+1):=hd1.le (hJF _ _ _ _ hj1);refine⟨_,_,Kk hF1 (iP (Kd _) (aS.none hFd q2) _),hJn _ _ _ _ _ hj2 or,fun m b e=>?_,?_, .inr ⟨id,[],q2,Zm,by simp[Ka]⟩⟩
  ·simp only[Ka] at e;split at e
   ·rename_i hm;rw[hm,q3];exact e
   exact aAx e
  simp only[Ka];rw[if_neg or];simp
 obtain⟨F,hj,p1,p2,p3,p4,p5⟩:=hpl
 refine aO (fun q:List (Nat×List ByteArray)×List ByteArray×List Nat×V=>aD 50 0 [(0, .yld yn),(1, .ept (.agg 6) [.agg [.str r.h.r, .sl (.agg 4) r.h.o (r.h.l.map Tr.v), .int .i64 r.g, .int .i64 r.c, .sl (.agg 17) r.o (r.b.map Li.v), .int .i64 r.at_]] 0 0),(3, .map n0),(4,q.2.2.2)])
  (fun q hp nx1=>aS hp nx1∧n0+1≤nx1∧(∃F hj es c,F0.le F∧J F q.1 hj nx1∧hj.le hp∧F n0=some (.mp es c)∧gW es q.2.1∧PlL F (n0+1) q.2.2.1 q.2.2.2)∧nM r=q.1++gI r q.2.2.1.length q.2.1 q.2.2.1∧(∀k∈q.2.2.1,k<r.b.length)∧q.2.1.length+q.2.2.1.length*2097158≤8*2097158)
  (fun q=>q.2.2.1.length) ([],[],Kw r.b.length,v) ⟨hdm,hnx,⟨F,hj,[],0,p1,p2,p3,p4,mf,p5⟩,by simp[nM],fun k hk=>by simpa using hk,by dsimp only;rw[hlr];simp only[jM];omega⟩ (by simp only[WkL,aD,jH,jI,jJ,Ru.v.eq_1,go_sem,reduceIte,jA,jB,jC,jD,reduceCtorEq,jE,jF]) ?_
 rintro⟨done,s,left,v⟩ hp nx1 ⟨hdm,hnx,⟨F,hj,es,c,p1,p2,p3,p4,p5,p6⟩,hst,hlt,hsl⟩;generalize hQ:aV _ _ _ _ _=Q0;dsimp only at p2 p5 p6 hst hlt hsl;refine Zk ?_;have hFp:F.le hp:=Kk (hJF _ _ _ _ p2) p3;have hm1:hp n0=some (.mp es c):=hFp _ _ p4;have hll:left.length≤8:=or;have C:=y6 r hr s or n0 es c hp hm1 p5 left hlt or (n0+1) v (p6.le hFp);simp only[Ru.v] at C;refine aue trs.eq_1 ?_;refine aI C rfl (aL _) ?_;refine Zn ?_;rcases ut r s left with hi|⟨i,hi,hil⟩
 ·rw[hi];have g1:decide ((-1:Int)<0)=true:=rfl;refine aue g1 ?_;rw[←hQ];refine au ?_;refine⟨hj,p3, .inl ⟨F,done,p1,?_,p2⟩⟩;rw[hst,zD or,KJ]
 rw[hi];have g1:decide ((i:Int)<0)=false:=dcf;rcases p6 with⟨rfl,_⟩|⟨id,zs,k1,rfl,k3⟩
 ·cases hil
 have aRw:=hFp _ _ k3;have bFh:id<nx1:=hdm _ _ aRw;have aFV:left.getD i 0=left[i]:=by rw[Kc,Kg hil];rfl
 have hkb:=hlt left[i] (Ki _);have hg:(left.map kV++zs).getD i (.tup [])= .int .i64 left[i]:=by rw[Kc,Ku (by simpa using hil),←Kc];exact aJ kV left i hil
 have hap:(left.map kV++zs).length=left.length+zs.length:=Zm;have hlz:i<left.length+zs.length:=or;have hw:IntKind.i64.wrap ((i:Int)+1)=((i+1:Nat):Int):=wrp;refine aue (e8 g1 aRw hg hap hlz hil hw (Qh i)) ?_;rw[show left.length=(left.map kV).length by simp];refine bF ((j4 id (left.map kV) zs i hp nx1 aRw (by simpa using hil)).dom.mono ?_);rintro v2 h2 nx2 aAb ⟨⟨rfl,rfl⟩,hd2,_⟩;unfold cY;refine Zn ?_;have hg2:=aJ Li.v r.b left[i] hkb;have hD2:r.b.getD left[i] default=r.b[left[i]]:=by rw[Kc,Kg hkb];rfl
 have hrl:=b3 r.b[left[i]] (Ki _);have hs2:=zC hi hil;rw[aFV,hD2] at hs2;generalize r.b[left[i]]=l at hg2 hrl hs2;have hvl:=iI hrl;have hf:=Li.aAA l;obtain⟨o1,ho1⟩:=bQ .leaf (l.vars.map V.str);have C1:∀h:Hp,aK Tryz.prog 40 [l.v] h (.sl .leaf o1 (l.vars.map V.str)):=fun h=>ho1▸xH l hrl h;obtain⟨X,hX⟩:∃X,l.v=X:=⟨_,rfl⟩;rw[hX] at hg2 hf C1;generalize hH:Ka hp id _=H;have bCQ:H id=some (.arr .leaf ((left.map kV).take i++(left.map kV).drop (i+1)++(zin::zs))):=by rw[←hH];simp[Ka]
 have hHo:∀m,m≠id→H m=hp m:=fun m hm=>by rw[←hH];simp only[Ka];rw[if_neg hm]
 rw[hH] at hd2;have hHn:H n0=some (.mp es c):=by rw[hHo n0 or];exact hm1
 refine aue (e5 hg2 hf hkb (@jK Li V) jG) ?_;refine bF ((tO o1 l.vars s or n0 es c H nx2 hHn p5).dom.mono ?_);rintro v3 h3 nx3 aEs ⟨⟨es3,c3,w1,w2,w3⟩,hd3,_⟩;unfold cY;refine Zn ?_;have S:=dr r hr (s++l.vars) n0 es3 c3 h3 w1 w2 true;simp only[Ru.v] at S;refine aue trs.eq_1 ?_;refine aI S rfl (aL _) ?_;refine Zn ?_;have er:(left.map kV).take i++(left.map kV).drop (i+1)=(left.eraseIdx i).map kV:=by rw[List.eraseIdx_eq_take_drop_succ,Ko,List.map_take,List.map_drop]
 have el:(left.eraseIdx i).length=left.length-1:=Qa hil;have hjF:=hJu _ _ _ _ id _ (.arr .leaf ((left.eraseIdx i).map kV++(zin::zs))) p2 or k3;have bB1:=hJu _ _ _ _ n0 (.mp es c) (.mp es3 c3) hjF (KF _) (by simp only[Ka];rw[if_neg or];exact p4);have bB0:=hJn _ _ _ _ nx3 bB1 or;have hj3:((hj.set id (.arr .leaf ((left.eraseIdx i).map kV++(zin::zs)))).set n0 (.mp es3 c3)).le h3:=fun m b e=>by
  simp only[Ka] at e;split at e
  ·rename_i hm;rw[hm,w1];exact e
  rename_i hm;split at e
  ·rename_i hm2;rw[hm2,w3 id or or,bCQ,er];exact e
  rename_i hm2;have:=p3 m b e;rw[w3 m (Qt (hdm _ _ this) aAb) hm,hHo m hm2];exact this
 have bCR:F0.le ((F.set id (.arr .leaf ((left.eraseIdx i).map kV++(zin::zs)))).set n0 (.mp es3 c3)):=fun m b e=>by
  have hm:m<n0:=aHW m b (hJF _ _ _ _ hj0 m b e);simp only[Ka];rw[if_neg or,if_neg or];exact p1 m b e
 have Y:=hy _ _ (left[i],cL r (s++l.vars) true) ⟨_,by rw[hst,hs2]⟩ _ nx3 bB0 (hd3.le hj3) or;unfold DM at Y;refine au ?_;refine pD rfl ((Y.weaken hj3).dom.mono ?_);rintro v4 h4 nx4 aEE ⟨hv,hd4,_⟩;rcases hv with⟨rfl,hv⟩|⟨rfl,hv⟩
 ·unfold cY;refine Zn ?_;refine au ?_;rw[←hQ];refine aF (done++[(left[i],cL r (s++l.vars) true)],s++l.vars,left.eraseIdx i, .rs id .leaf 0 ((left.map kV).length-1)) Zw ⟨hd4,or,⟨_,h4,es3,c3,bCR,hv,Kd _,by simp[Ka],w2, .inr ⟨id,zin::zs,k1,by rw[el,jK],by simp only[Ka];rw[if_neg or];simp⟩⟩,?_,fun k hk=>hlt k (Qd hk),?_⟩ (by simp only[WkL,aD,jH,jI,jJ,jK,go_sem,reduceIte,jA,jB,jC,jD,reduceCtorEq,jE,jF])
  ·dsimp only;rw[hst,hs2];simp
  dsimp only;rw[el,Kz];have:left.length=(left.length-1)+1:=or;rw[this,KN] at hsl;omega
 unfold cY;refine Zn ?_;refine au ?_;rw[←hQ];refine au ?_;exact⟨h4,Kd _, .inr hv⟩
theorem yv(r:Ru)(h:Hp):aK Tryz.prog 43 [r.v] h (.fn (.func 83) [] [.ept (.agg 6) [r.v] 0 0]):=by
 have hf:r.v.fits (.agg 6)=true:=rfl;refine vW (fun L hL=>by simpa [Kq,bI] using hL) fun h' nx hh=>aB L.bEB fun hd=>?_;obtain⟨ev,hev⟩:∃ev,r.v=ev:=⟨_,rfl⟩;rw[hev] at hf⊢;refine ZK ?_;refine bZ ?_;generalize hR:kH _ _=R;refine aue hf ?_;rw[←hR];refine fX (di (t:=1) (n:=nx) (k:= .agg 6) (i:=0) (o:=0) (es:=[ev]) rfl (by simp only[go_sem,reduceIte,jA,jB,jC,jD,reduceCtorEq,jE,jF])) ?_;refine Zn ?_;refine au ?_;refine aC h' (fun m b e=>?_) ⟨rfl,rfl⟩;have:=hd _ _ e;simp only[Hp.del,Ka];rw[if_neg or,if_neg or];exact e
theorem mK(r:Ru):∀(n:Nat) (s:List ByteArray) (left:List Nat),(gI r n s left).length≤n
 |0,_,_=>KF _
 |n+1,s,left=>by
  unfold gI;split
  ·exact KG _
  have:=mK r n (s++(r.b.getD (left.getD (iS r s left).toNat 0) default).vars) (left.eraseIdx (iS r s left).toNat);simp only[jL];omega
theorem z8(r:Ru)(hr:bT r=true)(h:Hp):aK Tryz.prog 10 [r.v] h (lst .leaf ((cO r).map kV)):=by
 refine ue (fun L=>aT (f:=kV) (fun _=>trivial) _) fun h' nx hh=>aB L.g4z fun hd=>?_;have hd:aS h' nx:=hd;have hit:=yy r hr;have C1:=fun h=>yv r h;have hb8:=(cM hr).2.1;have hsl:=mK r r.b.length [] (Kw r.b.length);obtain⟨X,hX⟩:∃X,r.v=X:=⟨_,rfl⟩;have hf:X.fits (.agg 6)=true:=by rw[←hX];rfl
 rw[hX] at hit C1⊢;refine ZK ?_;refine aue hf ?_;have aAo:∀n,nx≤n→h' n=none:=fun n hn=>aS.none hd hn;obtain⟨I,hI⟩:∃I:Hp→List (Nat×List ByteArray)→Hp→Nat→Prop,∀F i h nx1,I F i h nx1↔(h'.le F∧F.le h∧F (nx+1)=none∧(∃acc,h (nx+1)=some (.arr .leaf [acc])∧((i=[]∧acc= .sl .leaf .nil [])∨(i≠ []∧∃id,nx≤id∧id≠nx+1∧id≠nx+2∧F id=none∧acc= .rs id .leaf 0 i.length∧h id=some (.arr .leaf ((i.map Qk).map kV)))))):=⟨_,fun _ _ _ _=>Iff.rfl⟩;have aRL:∀{F h:Hp} (n:Nat) (b:Blk),F.le h→(F.set n b).le (h.set n b):=fun n b hF m c hm=>by
  unfold Ka at hm⊢;split
  ·rename_i e1;rw[if_pos e1] at hm;exact hm
  rename_i e1;rw[if_neg e1] at hm;exact hF m c hm
 refine aw hit rfl (fun x=>rfl) (by exact dmo hd) I (fun _ _ _=>False) ?_ ?_ ?_ ?_ ?_ (fun _ _ _ _ h=>h.elim) (fun _ _ _ _ h=>h.elim) h' ?_ (bD _) (aAo _ Zm) ?_ ?_ (fun _ _ _ h=>h.elim)
 ·exact fun F i h nx1 hi=>((hI _ _ _ _).1 hi).2.1
 ·exact fun F i h nx1 nx2 hi _=>(hI _ _ _ _).2 ((hI _ _ _ _).1 hi)
 ·intro F i h nx1 b hi hFn;obtain⟨hle,hFh,hF0,acc,h1,h2⟩:=(hI _ _ _ _).1 hi;refine(hI _ _ _ _).2 ⟨hle,iP hFh hFn b,hF0,acc,?_,?_⟩
  ·simp only[Ke];rw[if_neg or];exact h1
  rcases h2 with h2|⟨hi,id,h3,h4,h5,hFi,h6,h7⟩
  ·exact .inl h2
  refine .inr ⟨hi,id,h3,h4,h5,hFi,h6,?_⟩;simp only[Ke];rw[if_neg h5];exact h7
 ·intro F i h nx1 b hi hdm hlt;obtain⟨hle,hFh,hF0,acc,h1,h2⟩:=(hI _ _ _ _).1 hi;simp only at hlt;have hFd:=hdm.le hFh;refine(hI _ _ _ _).2 ⟨Kk hle (iP (Kd _) (aS.none hFd (KF _)) b),aRL _ _ hFh,?_,acc,?_,?_⟩
  ·simp only[Ke];rw[if_neg or];exact hF0
  ·simp only[Ke];rw[if_neg or];exact h1
  rcases h2 with h2|⟨hi,id,h3,h4,h5,hFi,h6,h7⟩
  ·exact .inl h2
  have hid:id<nx1:=hdm _ _ h7;refine .inr ⟨hi,id,h3,h4,h5,?_,h6,?_⟩
  ·simp only[Ke];rw[if_neg or];exact hFi
  simp only[Ke];rw[if_neg or];exact h7
 ·intro F i h nx1 n b b' hi hlt hn;obtain⟨hle,hFh,hF0,acc,h1,h2⟩:=(hI _ _ _ _).1 hi;simp only at hlt;refine(hI _ _ _ _).2 ⟨iP hle (aAo _ or) b',aRL _ _ hFh,?_,acc,?_,?_⟩
  ·simp only[Ke];rw[if_neg or];exact hF0
  ·simp only[Ke];rw[if_neg or];exact h1
  rcases h2 with h2|⟨hi,id,h3,h4,h5,hFi,h6,h7⟩
  ·exact .inl h2
  have hne:id≠n:=fun e=>by rw[e,hn] at hFi;cases hFi
  refine .inr ⟨hi,id,h3,h4,h5,?_,h6,?_⟩
  ·simp only[Ke];rw[if_neg hne];exact hFi
  simp only[Ke];rw[if_neg hne];exact h7
 ·exact(hI _ _ _ _).2 ⟨Kd _,leo hd,aAo _ or, .sl .leaf .nil [],by simp[Ke], .inl ⟨rfl,rfl⟩⟩
 ·rintro F i ⟨k,ss⟩ ⟨l,hl⟩ h nx1 Y hii hFn hnx hY hdm;obtain⟨aBy,hFh,hF0,acc,h1,h2⟩:=(hI _ _ _ _).1 hii;simp only at hnx hY hFn;have hFd:=hdm.le hFh;have hil:i.length≤8:=by
   have:=congrArg QG hl;unfold nM at this;simp only[Kz,jL] at this;omega
  have aRN:nx+1<nx1:=or;have e7:(nx+1=nx1+1)=False:=fls;have e8:(nx+2=nx1+1)=False:=fls;have e9:(nx+2=nx+1)=False:=fls;have e11:(nx+2=nx1)=False:=fls;simp only[aAX,DM,List.set_cons_succ,List.set_cons_zero];refine au ?_;refine nG (by simp only[go_sem,reduceIte,jA,jB,jC,jD,reduceCtorEq,jE,jF];exact hY) fun Y'=>?_;refine Zn ?_;refine bL (cP ?_);have hm:(((i++[(k,ss)]).map Qk).map kV)=(i.map Qk).map kV++[.int .i64 k]:=by simp[kV]
  have aEC:∀(h'':Hp) (nx2 id:Nat),F.le h''→nx1≤id→h'' (nx+1)=some (.arr .leaf [.rs id .leaf 0 (i.length+1)])→h'' (nx+2)=some Y'→h'' id=some (.arr .leaf ((i.map Qk).map kV++[.int .i64 k]))→∀sl,eK 1 (mR (nx+2) Y' (I F (i++[(k,ss)])) (fun _ _ _=>False)) .normal ⟨sl,h'',nx2⟩:=by
   intro h'' nx2 id q1 q2 q3 q4 q5 sl;exact aW (nP q4 ((hI _ _ _ _).2 ⟨aBy,q1,hF0,_,q3, .inr ⟨Zm,id,or,or,or,aS.none hFd q2,Zm,by rw[hm];exact q5⟩⟩))
  generalize hQ:eK 1 (mR (nx+2) Y' (I F (i++[(k,ss)])) (fun _ _ _=>False)) .normal=Qn at aEC⊢;have hFx:∀n,(nx1≤n∨n=nx+1∨n=nx+2)→F n=none:=fun n hn=>by
   rcases hn with hn|rfl|rfl
   ·exact aS.none hFd hn
   ·exact hF0
   exact hFn
  have aEs:∀n,(nx1≤n∨n=nx+1∨n=nx+2)→∀{h2:Hp},F.le h2→∀b,F.le (h2.set n b):=fun n hn h2 q b=>iP q (hFx n hn) b;rcases h2 with⟨rfl,rfl⟩|⟨aAu,id,h3,h4,h5,hFi,rfl,h7⟩
  ·refine aun (e4 h1 e7 e8 aRN) ?_;refine iK rfl rfl Zm (by simp only[jL,jM];omega) ?_;refine Zn ?_;refine aue (e4 h1 e7 e8 aRN) ?_;refine aEC _ _ (nx1+1) ?_ or ?_ ?_ ?_ _
   ·repeat (first|exact hFh|refine aEs _ or ?_ _)
   ·simp only[h1,e7,e8,go_sem,reduceIte,jA,jB,jC,jD,reduceCtorEq,jE,jF]
   ·simp only[h1,e7,e8,e9,e11,go_sem,reduceIte,jA,jB,jC,jD,reduceCtorEq,jE,jF]
   have e10:(nx1+1=nx+1)=False:=fls;simp only[e10,Kx,jQ,go_sem,reduceIte,jA,jB,jC,jD,reduceCtorEq,jE,jF]
  have hid:id<nx1:=hdm _ _ h7;have f3:(id=nx+1)=False:=fls h4;have f4:(id=nx+2)=False:=fls h5;have f5:(id=nx1+1)=False:=fls;have f6:(nx+1=id)=False:=fls (fun e=>h4 e.symm);have f7:(nx+2=id)=False:=fls (fun e=>h5 e.symm);have hlen:((i.map Qk).map kV).length=i.length:=Zm;refine aue (e12 h1 h7 e7 e8 aRN hlen hil f3 f4 f5 f6 (e2 f7 hid)) ?_;refine aEC _ _ (nx1+1) ?_ or ?_ ?_ ?_ _
  ·repeat (first|exact hFh|refine aEs _ or ?_ _|refine pF ?_ hFi)
  ·simp only[h1,e7,e8,f6,go_sem,reduceIte,jA,jB,jC,jD,reduceCtorEq,jE,jF]
  ·simp only[h1,e7,e8,e9,e11,f7,go_sem,reduceIte,jA,jB,jC,jD,reduceCtorEq,jE,jF]
  have e10:(nx1+1=nx+1)=False:=fls;simp only[e10,go_sem,reduceIte,jA,jB,jC,jD,reduceCtorEq,jE,jF]
 intro F xs aAk hFF h nx1 hii hnx hdm;obtain⟨aBy,hFh,hF0,acc,h1,h2⟩:=(hI _ _ _ _).1 hii;have hle:=Kk aBy hFh;simp only at hnx;have e1:(nx+1=nx+2)=False:=fls;refine aue (e2 h1 e1) ?_;subst aAk;rcases h2 with⟨h2,rfl⟩|⟨aAu,id,h3,h4,h5,hFi,rfl,h7⟩
 ·refine aC h' (pF hle (aAo _ or)) ⟨.inl ⟨by unfold cO;rw[h2];rfl,rfl⟩,Hp.same.aAn⟩
 refine aC (h'.set id (.arr .leaf ((cO r).map kV))) ?_ ⟨.inr ⟨?_,id,h3,?_,by simp[Ka]⟩,fun m hm=>by simp only[Ka];rw[if_neg or]⟩
 ·refine xO (pF hle (aAo _ or)) ?_;simp only[Hp.aA6];rw[if_neg h5,h7];rfl
 ·unfold cO;simpa using aAu
 unfold cO;simp only[jK,go_sem,reduceIte,jA,jB,jC,jD,reduceCtorEq,jE,jF]
end Go.Proofs.YtgbiopfghdilnaaGreatDoor
namespace Go.Proofs.YtgbiopfghdilnaaGreatDoor
open Go.RowKit
theorem zP{v:V}(h:v.aAE=true):v.loose.aAE=true:=by
 cases v with
 |sl k o es=>cases o<;>rfl
 |_=>first|exact h|rfl
end Go.Proofs.YtgbiopfghdilnaaGreatDoor
namespace Go.Proofs.YtgbiopfghdilnaaGreatDoor
open Go.RowKit Go.Sort
attribute [local irreducible] KK
theorem AA{k:Sh}{v:V}(h:v.fits k=true):v.loose.fits k=true:=by
 cases k with
 |leaf=>rw[oM] at h⊢;exact zP h
 |agg n=>
  cases v with
  |agg cs=>
   simp only[Kj,Ks,KE,decide_eq_true_eq,jK,Qe,KI] at h⊢;refine⟨h.1,?_⟩;rintro x ⟨c,hc,rfl⟩;have:=h.2 c hc;split<;>first|rfl|exact this
  |_=>cases h
theorem Ao{K:Ker}{k:Sh}{v:V}{cv:Value}{j:Nat}(hf:v.fits k=true)(hj:j<k.size)(h:VR K (v.cell j) cv):VR K (v.loose.cell j) cv:=by
 cases k with
 |leaf=>
  rw[oM] at hf;have hj0:j=0:=by simp[Sh.size] at hj;exact hj
  subst hj0;rw[mH hf] at h;rw[mH (zP hf)];exact h.loose
 |agg n=>
  cases v with
  |agg cs=>
   simp only[Kj,KE,decide_eq_true_eq,Qe] at hf;simp only[Sh.size] at hj;have hjc:j<cs.length:=or;show VR K ((cs.map _).getD j Kb) cv;have h:VR K (cs.getD j Kb) cv:=h;have hl:=hf.2 (cs.getD j Kb) (by rw[Kc,Kg hjc];exact Ki _);rw[Kc,KQ,Kg hjc];rw[Kc,Kg hjc] at h hl;simp only[Option.map_some,Option.getD_some] at h hl⊢;generalize cs[j]=c at h hl;cases c with
   |sl k o es=>have:=h.loose;cases o<;>exact this
   |_=>exact h
  |_=>cases hf
theorem s5{sl:List V}{h:Hp}{nx n:Nat}{k:Sh}{es:List V}(hn:h n=some (.arr k es)):xF ⟨sl,h,nx⟩ ⟨sl,h.set n (.arr k (es.map Ks)),nx⟩:=by
 intro K0 K nx0 a r;refine⟨K,rfl,r.le,r.aAD,?_,r.live,r.nx,r.defers⟩;have hr:=r.rel;have hex:∀m b,(h.set n (.arr k (es.map Ks))) m=some b→∃b',h m=some b':=fun m b e=>by
  simp only[Ka] at e;split at e
  ·rename_i hm;exact⟨_,by rw[hm];exact hn⟩
  exact⟨b,e⟩
 refine⟨fun m b e=>?_,fun m b e=>?_,fun m b e=>?_,fun m m' b b' e e'=>?_,hr.size⟩
 ·obtain⟨b',h'⟩:=hex m b e;exact hr.lt m b' h'
 ·obtain⟨b',h'⟩:=hex m b e;exact hr.base m b' h'
 ·simp only[Ka] at e;split at e
  ·rename_i hm;subst hm;cases e;have hb:=hr.blk m _ hn;cases hb with
   |arr _ _ c T hh hsz hi aAL hv=>
    refine .arr k _ c T hh (by rw[jK];exact hsz) hi (fun e he=>?_) fun i hi j hj=>?_
    ·obtain⟨x,hx,rfl⟩:=KI.1 he;exact AA (aAL x hx)
    rw[jK] at hi;have h1:=hv i hi j hj;rw[Kc,Kg hi] at h1;rw[Kc (l:=es.map Ks),KQ,Kg hi];exact Ao (aAL _ (Ki _)) hj h1
  exact hr.blk m b e
 obtain⟨c,h1⟩:=hex m b e;obtain⟨c',h2⟩:=hex m' b' e';exact hr.inj m m' c c' h1 h2
theorem Bt:aE Tryz.prog 39=some (LB.aHJ .leaf 16):=Zz
theorem CQ(l:Li)(h:Hp):aK Tryz.prog 38 [l.v] h (.int .i64 (if l.k=1 then 1 else if l.k=2 then 2 else 3)):=by
 refine aH (fun L=>trivial) fun h' nx hh=>aB L.bEE fun hd=>?_;have hf:=Li.aAA l;obtain⟨T,hT,hk⟩:∃T,l.v= .agg T∧T.getD 0 (.tup [])= .int .i64 l.k:=⟨_,rfl,rfl⟩;rw[hT] at hf⊢;refine ZK ?_;by_cases h1:l.k=1
 ·have g1:(l.k==1)=true:=bqt;refine aue (e3 hf hk g1) ?_;exact aC h' (leo hd) ⟨by rw[if_pos h1];rfl,rfl⟩
 have g1:(l.k==1)=false:=bqf;rw[if_neg h1];by_cases h2:l.k=2
 ·have g2:(l.k==2)=true:=bqt;refine aue (e4 hf hk g1 g2) ?_;exact aC h' (leo hd) ⟨by rw[if_pos h2];rfl,rfl⟩
 have g2:(l.k==2)=false:=bqf;refine aue (e4 hf hk g1 g2) ?_;exact aC h' (leo hd) ⟨by rw[if_neg h2];rfl,rfl⟩
def gB(s:List ByteArray):Nat→List Tr→List Nat
 |_,[]=>[]
 |i,t::r=>if (decide (t.x.size=0)||bP t.x s)=true then i::gB s (i+1) r else gB s (i+1) r
def oC(a:Am)(s:List ByteArray):List Nat:=gB s 0 a.l
theorem xK(s:List ByteArray):∀(a:List Tr) (i:Nat) (t:Tr),gB s i (a++[t])=gB s i a++(if (decide (t.x.size=0)||bP t.x s)=true then [i+a.length] else [])
 | [],i,t=>by simp[gB]
 |x::a,i,t=>by
  have e:i+1+a.length=i+(x::a).length:=by simp only[jL];omega
  simp only[jP,gB,xK s a (i+1) t,e];split<;>simp
theorem oA(s:List ByteArray):∀(a:List Tr) (i:Nat),(gB s i a).length≤a.length
 | [],i=>KF _
 |x::a,i=>by
  have:=oA s a (i+1);unfold gB;split<;>simp only[jL]<;>omega
theorem BV(a:Am)(ha:a.l.length≤1000000)(o:Own)(s:List ByteArray)(hs:s.length≤1000000000)(h:Hp):aK Tryz.prog 42 [a.v, .sl .leaf o (s.map V.str)] h (lst .leaf ((oC a s).map kV)):=by
 refine dF (fun L=>bV (fun L=>aT (f:=kV) (fun _=>trivial) _) L) fun h' nx hh=>aB L.bEC fun hd=>?_;obtain⟨ar,ao,ts⟩:=a;have ha:ts.length≤1000000:=ha;refine ZK ?_;have hd:aS h' nx:=hd;refine aue (e3 Am.v.eq_1 trs.eq_1 (@jK Tr V)) ?_
 refine aO (fun q:Nat×Own×List Nat=>aD 31 0 [(1, .sl .leaf o (s.map V.str)),(5, .sl .leaf q.2.1 (q.2.2.map kV)),(9, .sl (.agg 4) ao (ts.map Tr.v)),(10, .int .i64 ts.length),(11, .int .i64 q.1)])
  (fun q hp nx1=>q.1≤ts.length∧nx+1≤nx1∧aS hp nx1∧Kf nx h' hp∧Acc hp (nx+1) q.2.1 (q.2.2.map kV)∧q.2.2=gB s 0 (ts.take q.1))
  (fun q=>ts.length-q.1) (0, .nil,[]) ⟨KG _,Zw,by exact dmo hd,by exact kep Hp.same.aAn, .inl ⟨rfl,rfl⟩,by simp[gB]⟩ (by simp only[WkL,aD,jH,jI,jJ,jK,Kx,go_sem,reduceIte,jA,jB,jC,jD,reduceCtorEq,jE,jF]) ?_
 rintro⟨i,oo,l⟩ hp nx1 ⟨hi,hnx,hdm,hsm,aAM,hl⟩;generalize hQ:aV _ _ _ _ _=Q0;dsimp only at hi aAM hl;refine Zk ?_;rcases KH i ts.length with hlt|hge
 ·have hc:decide ((i:Int)<(ts.length:Int))=true:=dct;have hg:=aJ Tr.v ts i hlt;have hw:IntKind.i64.wrap ((i:Int)+1)=((i+1:Nat):Int):=wrp;have aAT:gB s 0 (ts.take (i+1))=gB s 0 (ts.take i)++(if (decide (ts[i].x.size=0)||bP ts[i].x s)=true then [i] else []):=by
   rw[Kh hlt,xK,KA,Nat.min_eq_left or,Qh]
  have hlen:l.length≤1000000:=by
   rw[hl];have:=oA s (ts.take i) 0;rw[KA] at this;omega
  rw[←hl] at aAT;generalize ts[i]=T at hg aAT;have hTf:=Tr.aAA T;have h0:=vI T.x;have C1:∀h:Hp,aK Tryz.prog 41 [.sl .leaf o (s.map V.str), .str T.x] h (.bool (bP T.x s)):=fun h=>kC o s hs T.x h;have hml:(l.map kV).length=l.length:=jK ..;by_cases ht:(decide (T.x.size=0)||bP T.x s)=true
  ·rw[if_pos ht] at aAT;cases h1:decide (T.x.size=0) with
   |true=>
    refine aue (e12 hc hg hlt Tr.v.eq_1 h0 h1 hw (@jK Tr V) jG hTf hlen hml) ?_;rw[←hQ];exact aF (i+1,_,l++[i]) Zw ⟨hlt,or,dmo hdm,rC hsm aAM,by dsimp only;rw[Ko];exact Acc.new _ Zm or,aAT.symm⟩ (by simp only[WkL,aD,jH,jI,jJ,Ko,Kv,Kx,kV,go_sem,reduceIte,jA,jB,jC,jD,reduceCtorEq,jE,jF])
   |false=>
    have h2:bP T.x s=true:=by rw[h1] at ht;simpa using ht
    rw[h2] at C1;refine aue (e12 hc hg hlt Tr.v.eq_1 h0 h1 hw (@jK Tr V) jG hTf hlen hml) ?_;rw[←hQ];exact aF (i+1,_,l++[i]) Zw ⟨hlt,or,dmo hdm,rC hsm aAM,by dsimp only;rw[Ko];exact Acc.new _ Zm or,aAT.symm⟩ (by simp only[WkL,aD,jH,jI,jJ,Ko,Kv,Kx,kV,go_sem,reduceIte,jA,jB,jC,jD,reduceCtorEq,jE,jF])
  rw[if_neg ht,KJ] at aAT;simp only[Qz,not_or,KS] at ht;have h1:=ht.1;rw[ht.2] at C1;refine aue (e12 hc hg hlt Tr.v.eq_1 h0 h1 hw (@jK Tr V) jG hTf hlen hml) ?_;rw[←hQ];exact aF (i+1,oo,l) Zw ⟨hlt,or,dmo hdm,kep hsm,acc aAM hdm,aAT.symm⟩ (by simp only[WkL,aD,jH,jI,jJ,go_sem,reduceIte,jA,jB,jC,jD,reduceCtorEq,jE,jF])
 have hc:decide ((i:Int)<(ts.length:Int))=false:=dcf;refine aue hc ?_;rw[←hQ];refine au ?_;rw[Kt or] at hl;refine aC hp (Kd _) ⟨?_,hsm.le hd (Kd _)⟩;subst hl;rcases aAM with⟨e,rfl⟩|⟨e,id,_,rfl,_⟩
 ·unfold oC;rw[e];rfl
 unfold oC;cases hm:(gB s 0 ts).map kV with
 |nil=>exact absurd hm e
 |cons a b=>rfl
structure PS where
 k:Int
 i:Nat
 hv:List ByteArray
 wt:List ByteArray
 ky:List Nat
def PS.v(s:PS):V:= .agg [.int .i64 s.k, .int .i64 s.i,lst .leaf (s.hv.map V.str),lst .leaf (s.wt.map V.str),lst .leaf (s.ky.map kV)]
theorem PS.aAA(s:PS):s.v.fits (.agg 5)=true:=by
 show(true&&((V.int .i64 s.k).aAE&&((V.int .i64 s.i).aAE&&((lst .leaf (s.hv.map V.str)).aAE&&((lst .leaf (s.wt.map V.str)).aAE&&((lst .leaf (s.ky.map kV)).aAE&&true))))))=true;simp only[CD];rfl
instance:Inhabited PS:=⟨⟨0,0,[],[],[]⟩⟩
def gU(l:Li)(k:Nat)(hv:List ByteArray):PS:=⟨if l.k=1 then 1 else if l.k=2 then 2 else 3,k,hv,nmL hv l.ts,if l.k=1∨l.k=2 then oC l.a hv else []⟩
def fK(r:Ru):List Nat→List ByteArray→List PS
 | [],_=>[]
 |k::ks,hv=>gU (r.b.getD k default) k hv::fK r ks (nmL hv (r.b.getD k default).ts)
def lH(r:Ru):List PS:=fK r (cO r) []
def cW(r:Ru):List Nat→List ByteArray→List ByteArray
 | [],hv=>hv
 |k::ks,hv=>cW r ks (nmL hv (r.b.getD k default).ts)
theorem xV(r:Ru):∀(a:List Nat) (k:Nat) (hv:List ByteArray),fK r (a++[k]) hv=fK r a hv++[gU (r.b.getD k default) k (cW r a hv)]
 | [],k,hv=>rfl
 |x::a,k,hv=>by simp only[jP,fK,cW,xV r a k]
theorem uZ(r:Ru):∀(a:List Nat) (k:Nat) (hv:List ByteArray),cW r (a++[k]) hv=nmL (cW r a hv) (r.b.getD k default).ts
 | [],k,hv=>rfl
 |x::a,k,hv=>by simp only[jP,cW,uZ r a k]
theorem sB(r:Ru):∀(a:List Nat) (hv:List ByteArray),(fK r a hv).length=a.length
 | [],hv=>rfl
 |x::a,hv=>by simp[fK,sB r a]
theorem fh(hv:List ByteArray):∀(ts:List Tr) (l:List ByteArray),nmL (hv++l.filter fun v=> !bP v hv) ts=hv++(nmL l ts).filter fun v=> !bP v hv
 | [],l=>rfl
 |t::ts,l=>by
  have key:nmT (hv++l.filter fun v=> !bP v hv) t=hv++(nmT l t).filter fun v=> !bP v hv:=by
   unfold nmT;by_cases h0:t.x.size=0
   ·simp[h0]
   by_cases h1:bP t.x l=true
   ·have h2:bP t.x (hv++l.filter fun v=> !bP v hv)=true:=by
     rw[dE,Km,QA];by_cases h3:bP t.x hv=true
     ·exact .inl (dE.1 h3)
     exact .inr ⟨dE.1 h1,by simpa using h3⟩
    simp[h1,h2]
   rw[KS] at h1;by_cases h3:bP t.x hv=true
   ·have h2:bP t.x (hv++l.filter fun v=> !bP v hv)=true:=by rw[dE,Km];exact .inl (dE.1 h3)
    simp[h0,h1,h2,h3]
   rw[KS] at h3;have h2:bP t.x (hv++l.filter fun v=> !bP v hv)=false:=by
    rw[jZ,Km,QA];rintro(h|h)
    ·exact jZ.1 h3 h
    exact jZ.1 h1 h.1
   simp[h0,h1,h2,h3]
  show nmL (nmT _ t) ts=hv++(nmL (nmT l t) ts).filter _;rw[key,fh hv ts]
theorem uq(hv:List ByteArray)(l:Li):nmL hv l.ts=hv++l.vars.filter fun v=> !bP v hv:=by
 have:=fh hv l.ts [];unfold Li.vars;simpa using this
def loO:Own→Own
 | .nil=> .nil
 |_=> .free
def Ru.lo(r:Ru):Ru:=⟨⟨r.h.r,loO r.h.o,r.h.l⟩,r.g,r.c,loO r.o,r.b,r.at_⟩
def eA(r:Ru)(l:List PS):V:= .agg [.str r.h.r,trs r.h.o r.h.l, .int .i64 r.g, .int .i64 r.c, .sl (.agg 17) r.o (r.b.map Li.v), .int .i64 r.at_,lst (.agg 5) (l.map PS.v)]
def ru0:Ru:=⟨⟨⟨#[]⟩, .nil,[]⟩,0,0, .nil,[],0⟩
def mr(r:Ru):Ru×List PS×Int:=if bT r=false then (ru0,[],2) else if cL r (dY r) false≠ [] then (ru0,[],8) else (r.lo,lH r,0)
def ez(r:Ru):V:= .tup [eA (mr r).1 (mr r).2.1,eF (mr r).2.2]
theorem A6.acc{own:Own}{es:List V}{nx:Nat}{h:Hp}{v:V}{h':Hp}(ho:lst .leaf es= .sl .leaf own es)(hd:aS h nx)(c:A6 .leaf own es nx h v h'):∃o,v= .sl .leaf o es∧Acc h' nx o es∧Kf nx h h':=by
 rcases c with⟨h1,rfl,rfl⟩|⟨h1,id,h2,rfl,rfl⟩
 ·subst h1;cases es with
  |nil=>exact⟨.nil,rfl, .inl ⟨rfl,rfl⟩,Hp.same.aAn⟩
  |cons a b=>cases ho
 cases es with
 |nil=>rw[bw] at ho;injection ho with _ e _;exact absurd e.symm h1
 |cons a b=>exact⟨_,rfl, .inr ⟨Zm,id,h2,rfl,by simp[Ka]⟩,fun m hm=>by simp only[Ka];rw[if_neg or]⟩
theorem mI{h:Hp}{n0:Nat}{o:Own}{es:List V}(a:Acc h n0 o es):(V.sl .leaf o es).loose=lst .leaf es:=by
 rcases a with⟨rfl,rfl⟩|⟨h1,id,_,rfl,_⟩
 ·rfl
 cases es with
 |nil=>exact absurd rfl h1
 |cons a b=>rfl
theorem ap{P:Program}{f:FuncId}{args:List V}{h:Hp}{v:V}(hv:∀L,bI L args→v.names L)(hc:∀h' nx,h.has h'→aY P f args h' nx fun v' h'' _=>v'.aAv=v∧h'.le h''):aK P f args h v:=
 vW hv fun h' nx hh=>(hc h' nx hh).aRI fun v' h'' nx' _ _ hq=>⟨h',hq.2,hq.1,rfl⟩
theorem vY(r:Ru):∀k∈cO r,k<r.b.length:=by
 have key:∀(n:Nat) (s:List ByteArray) (left:List Nat),(∀k∈left,k<r.b.length)→∀p∈gI r n s left,p.1<r.b.length:=by
  intro n;induction n with
  |zero=>intro s left _ p hp;cases hp
  |succ n ih=>
   intro s left hl p hp;unfold gI at hp;split at hp
   ·cases hp
   rename_i aBq;rcases KD.1 hp with rfl|hp
   ·rcases ut r s left with h|⟨i,h,hi⟩
    ·omega
    rw[h,jG];have:left.getD i 0=left[i]:=by rw[Kc,Kg hi];rfl
    dsimp only;rw[this];exact hl _ (Ki _)
   exact ih _ _ (fun k hk=>hl k (Qd hk)) p hp
 intro k hk;obtain⟨p,hp,rfl⟩:=KI.1 hk;exact key _ _ _ (fun k hk=>by simpa using hk) p hp
theorem pM(r:Ru)(hb:∀l∈r.b,bG l=true):∀(ks:List Nat) (hv:List ByteArray),(∀k∈ks,k<r.b.length)→(cW r ks hv).length≤hv.length+ks.length*2097158
 | [],hv,_=>by simp[cW]
 |k::ks,hv,h=>by
  have h1:=pM r hb ks (nmL hv (r.b.getD k default).ts) fun x hx=>h x (KU _ hx);have hk:=h k KZ;have h2:=jU (r.b.getD k default).ts hv;have h3:(r.b.getD k default).ts.length≤2097158:=by
   rw[Kc,Kg hk];exact fY (hb _ (Ki _))
  unfold cW;simp only[jL,KN,Nat.one_mul];omega
theorem qI{l:Li}(h:bG l=true):l.k=1∨l.k=2∨l.k=3:=by
 unfold bG at h;split at h
 ·rename_i hk;omega
 simp only[KE,decide_eq_true_eq] at h;exact .inr (.inr h.1.1.1)
theorem Ru.aCI(r:Ru)(l:List PS)(L:Nat→Prop)(h:bI L [r.v]):(eA r.lo l).names L:=by
 have h:=h.1;simp only[Ru.v,Kq,bI] at h;obtain⟨_,⟨h1,h2⟩,_,_,⟨h3,h4⟩,_⟩:=h;have lo:∀(o:Own) n,loO o= .tok n→L n:=fun o n e=>by cases o<;>cases e
 refine⟨trivial,⟨lo _,h2⟩,trivial,trivial,⟨lo _,h4⟩,trivial,?_,trivial⟩;refine bV (fun L=>aT (fun s=>?_) _) L;exact⟨trivial,trivial,bV (fun L=>aT (f:=V.str) (fun _=>trivial) _) L,bV (fun L=>aT (f:=V.str) (fun _=>trivial) _) L,bV (fun L=>aT (f:=kV) (fun _=>trivial) _) L,trivial⟩
theorem uh(r:Ru){h:Hp}{n0:Nat}{oS:Own}{ps:List PS}(a:Acc h n0 oS (ps.map PS.v)):(V.agg [.str r.h.r, .sl (.agg 4) r.h.o (r.h.l.map Tr.v), .int .i64 r.g, .int .i64 r.c, .sl (.agg 17) r.o (r.b.map Li.v), .int .i64 r.at_, .sl (.agg 5) oS (ps.map PS.v)]).loose=eA r.lo ps:=by
 have h5:V.sl (.agg 5) (loO oS) (ps.map PS.v)=lst (.agg 5) (ps.map PS.v):=by
  rcases a with⟨h1,rfl⟩|⟨h1,id,_,rfl,_⟩
  ·rw[h1];rfl
  cases hm:ps.map PS.v with
  |nil=>exact absurd hm h1
  |cons a b=>rfl
 obtain⟨⟨hr,ho,hl⟩,g,c,o,b,at_⟩:=r;unfold eA Ru.lo;rw[←h5];cases ho<;>cases o<;>cases oS<;>rfl
theorem y0(k:Int)(i:Nat)(ow o2:Own)(hv w:List ByteArray)(how:lst .leaf (hv.map V.str)= .sl .leaf ow (hv.map V.str)){h:Hp}{n0:Nat}(a:Acc h n0 o2 (w.map V.str)):(V.agg [.int .i64 k, .int .i64 i, .sl .leaf ow (hv.map V.str), .sl .leaf o2 (w.map V.str), .sl .leaf .nil []]).loose= .agg [.int .i64 k, .int .i64 i,lst .leaf (hv.map V.str),lst .leaf (w.map V.str), .sl .leaf .nil []]:=by
 have h1:(V.sl .leaf ow (hv.map V.str)).loose=lst .leaf (hv.map V.str):=by
  rw[←how];unfold lst;split<;>rfl
 rw[←h1,←mI a];cases ow<;>cases o2<;>rfl
theorem zM(r:Ru)(h:Hp):aK Tryz.prog 9 [r.v] h (ez r):=by
 have hnm:∀L,bI L [r.v]→(ez r).names L:=fun L hL=>by
  unfold ez mr;refine⟨?_,eU L _,trivial⟩;split
  ·simp[eA,ru0,Kq,bI,lst]
  split
  ·simp[eA,ru0,Kq,bI,lst]
  exact Ru.aCI r _ L hL
 refine ap hnm fun h' nx hh=>aB L.g3z fun hd=>?_;have hd:aS h' nx:=hd;have C1:=fun h=>zh r h;have C2:=fun hr h=>pm r hr h;have C3:=fun hr h=>z8 r hr h;simp only[Ru.v] at C1 C2 C3;refine ZK ?_;unfold ez mr;cases hr:bT r with
 |false=>
  rw[hr] at C1;clear C2 C3;refine aue (e2 Ru.v.eq_1 trs.eq_1) ?_;refine aP (by simp only[go_sem,reduceIte,jA,jB,jC,jD,reduceCtorEq,jE,jF]) h' (leo hd) ⟨?_,leo hd⟩;refine Zn ?_;rfl
 |true=>
  rw[hr] at C1
  replace C2:=C2 hr
  replace C3:=C3 hr
  obtain⟨b1,b2,b3⟩:=cM hr;rw[if_neg Zm];cases hsv:cL r (dY r) false with
  |cons a b=>
   rw[hsv] at C2;have g1:decide ((0:Int)<(((a::b).map V.str).length:Int))=true:=dct Zm;have g2:decide ((((a::b).map V.str).length:Int)>0)=true:=dct Zm;generalize (a::b).map V.str=q at C2 g1 g2;clear C3;refine aue (e4 Ru.v.eq_1 trs.eq_1 g1 g2) ?_;refine aP (by simp only[go_sem,reduceIte,jA,jB,jC,jD,reduceCtorEq,jE,jF]) h' (leo hd) ⟨?_,leo hd⟩;refine Zn ?_;rfl
  |nil=>
   rw[hsv] at C2;rw[if_neg Zm];obtain⟨oo,hoo⟩:=bQ .leaf ((cO r).map kV);rw[hoo] at C3;have hol:(cO r).length≤8:=by
    unfold cO nM;rw[jK];exact QE (mK ..) b2
   have hz:decide ((0:Int)<((0:Nat):Int))=false:=rfl;refine aue (e4 Ru.v.eq_1 trs.eq_1 (@jK Nat V) hz) ?_;have aCh:=vY r;obtain⟨O,hO⟩:∃O,cO r=O:=⟨_,rfl⟩;have aFR:lH r=fK r O []:=by unfold lH;rw[hO]
   rw[hO] at hol aCh⊢;rw[aFR];have hbl:∀i,(cW r (O.take i) []).length≤16777264:=fun i=>by
    have h1:=pM r b3 (O.take i) [] fun k hk=>aCh k (KM hk);have h2:(O.take i).length*2097158≤8*2097158:=Kp _ (by rw[KA];omega);simp only[jM] at h1;omega
   obtain⟨RB,hRB⟩:∃RB,V.agg [.str r.h.r, .sl (.agg 4) r.h.o (r.h.l.map Tr.v), .int .i64 r.g, .int .i64 r.c, .sl (.agg 17) r.o (r.b.map Li.v), .int .i64 r.at_]=RB:=⟨_,rfl⟩
   refine aO (fun q:Nat×Own=>aD 82 0 [(1, .ptr nx (.agg 6) 0 0),(2, .ptr (nx+1) (.agg 7) 0 0),(3, .nilIface),(4, .ptr (nx+2) (.agg 7) 0 0),(5,lst .leaf ((cW r (O.take q.1) []).map V.str)),(28, .sl .leaf oo (O.map kV)),(29, .int .i64 O.length),(30, .int .i64 q.1)])
    (fun q hp nx1=>q.1≤O.length∧nx+4≤nx1∧aS hp nx1∧Kf nx h' hp∧hp nx=some (.arr (.agg 6) [.agg [.str r.h.r, .sl (.agg 4) r.h.o (r.h.l.map Tr.v), .int .i64 r.g, .int .i64 r.c, .sl (.agg 17) r.o (r.b.map Li.v), .int .i64 r.at_]])∧
      hp (nx+1)=some (.arr (.agg 7) [.agg [.str ⟨#[]⟩, .sl (.agg 4) .nil [], .int .i64 0, .int .i64 0, .sl (.agg 17) .nil [], .int .i64 0, .sl (.agg 5) .nil []]])∧
      hp (nx+2)=some (.arr (.agg 7) [.agg [.str r.h.r, .sl (.agg 4) r.h.o (r.h.l.map Tr.v), .int .i64 r.g, .int .i64 r.c, .sl (.agg 17) r.o (r.b.map Li.v), .int .i64 r.at_, .sl (.agg 5) q.2 ((fK r (O.take q.1) []).map PS.v)]])∧
      Acc hp (nx+4) q.2 ((fK r (O.take q.1) []).map PS.v))
    (fun q=>O.length-q.1) (0, .nil) ⟨KG _,Zw,by exact dmo hd,by exact kep Hp.same.aAn,by simp only[go_sem,reduceIte,jA,jB,jC,jD,reduceCtorEq,jE,jF],by simp only[go_sem,reduceIte,jA,jB,jC,jD,reduceCtorEq,jE,jF],by simp only[go_sem,reduceIte,jA,jB,jC,jD,reduceCtorEq,jE,jF];rfl, .inl ⟨rfl,rfl⟩⟩ (by simp only[WkL,aD,jH,jI,jJ,jK,cW,bw,go_sem,reduceIte,jA,jB,jC,jD,reduceCtorEq,jE,jF]) ?_
   rintro⟨i,oS⟩ hp nx1 ⟨hi,hnx,hdm,hsm,hb0,hb1,hb2,aDL⟩;generalize hQ:aV _ _ _ _ _=Q0;dsimp only at hi aDL hb2;refine Zk ?_;have n1:nx<nx1:=or;have n2:nx+1<nx1:=or;have n3:nx+2<nx1:=or;rcases KH i O.length with hlt|hge
   ·have hc:decide ((i:Int)<(O.length:Int))=true:=dct;have hg:(O.map kV).getD i (.tup [])= .int .i64 O[i]:=aJ kV O i hlt;have hw:IntKind.i64.wrap ((i:Int)+1)=((i+1:Nat):Int):=wrp;have hkb:=aCh O[i] (Ki _);have hpa:fK r (O.take (i+1)) []=fK r (O.take i) []++[gU (r.b.getD O[i] default) O[i] (cW r (O.take i) [])]:=by rw[Kh hlt,xV]
    have hba:cW r (O.take (i+1)) []=nmL (cW r (O.take i) []) (r.b.getD O[i] default).ts:=by rw[Kh hlt,uZ]
    have hvl:=hbl i;have hpl:(fK r (O.take i) []).length≤8:=by rw[sB,KA];omega
    generalize cW r (O.take i) []=hv at*;generalize fK r (O.take i) []=ps at*;have hD:r.b.getD O[i] default=r.b[O[i]]:=by rw[Kc,Kg hkb];rfl
    have hg2:=aJ Li.v r.b O[i] hkb;have hrl:=b3 r.b[O[i]] (Ki _);rw[hD] at hpa hba;generalize r.b[O[i]]=l at hg2 hrl hpa hba;generalize O[i]=k at hg hkb hg2 hpa;have hlv:=iI hrl;have hf:=Li.aAA l;obtain⟨o1,ho1⟩:=bQ .leaf (l.vars.map V.str);have C4:∀h:Hp,aK Tryz.prog 40 [l.v] h (.sl .leaf o1 (l.vars.map V.str)):=fun h=>ho1▸xH l hrl h;have C3:=fun h=>CQ l h;obtain⟨T,hT,hk0,hat⟩:∃T,l.v= .agg T∧T.getD 0 (.tup [])= .int .i64 l.k∧(T.drop 1).take 2=[.str l.a.r,trs l.a.o l.a.l]:=⟨_,rfl,rfl,rfl⟩;rw[hT] at hg2 hf C3 C4;obtain⟨ow,how⟩:=bQ .leaf (hv.map V.str);rw[how];clear C1 C2;refine aue (e12 hc hg hlt hb0 n1 hg2 hf hkb hk0 (@jK Nat V) (@jK Li V) jG) ?_;refine bF ((zY Bt or ow (hv.map V.str) (by rw[jK];omega) (fun e=>by rw[e] at how;cases hm:hv.map V.str with|nil=>rfl|cons a b=>rw[hm] at how;cases how) _ (nx1+2)).dom.mono ?_);rintro vC h2 nx2 aAb ⟨hcl,hd2,_⟩;have hdA:aS ((hp.set nx1 (.arr (.agg 17) [.agg [.int .i64 0, .str ⟨#[]⟩, .sl (.agg 4) .nil [], .int .i64 0, .int .i64 0, .str ⟨#[]⟩, .int .i64 0, .int .i64 0, .str ⟨#[]⟩, .sl (.agg 6) .nil [], .int .i64 0, .str ⟨#[]⟩, .int .i64 0, .int .i64 0, .str ⟨#[]⟩, .sl (.agg 6) .nil [], .int .i64 0]])).set nx1 (.arr (.agg 17) [.agg T])) (nx1+2):=dmo hdm;obtain⟨oc,rfl,aBH,hs2⟩:=hcl.acc how hdA;unfold cY;refine Zn ?_;have hb8:h2 nx1=some (.arr (.agg 17) [.agg T]):=by rw[hs2 nx1 or];simp only[go_sem,reduceIte,jA,jB,jC,jD,reduceCtorEq,jE,jF]
    have n8:nx1<nx2:=or;have bB6:=hdm;refine aue (e6 hf hb8 n8 trs.eq_1 (@jK ByteArray V) hc) ?_;obtain⟨kd,hkd⟩:∃kd:Int,(if l.k=1 then 1 else if l.k=2 then 2 else 3)=kd:=⟨_,rfl⟩;rw[hkd];have hwt:nmL hv l.ts=hv++l.vars.filter fun v=> !bP v hv:=uq hv l;generalize hSQ:kH (lwp Tryz.prog _) _=SQ
    refine aO (fun q:Nat×Own=>aD 82 0 [(1, .ptr nx (.agg 6) 0 0),(2, .ptr (nx+1) (.agg 7) 0 0),(3, .nilIface),(4, .ptr (nx+2) (.agg 7) 0 0),(5, .sl .leaf ow (hv.map V.str)),(8, .ptr nx1 (.agg 17) 0 0),(9, .ptr nx2 (.agg 5) 0 0),(28, .sl .leaf oo (O.map kV)),(29, .int .i64 O.length),(30, .int .i64 i),(47, .sl .leaf o1 (l.vars.map V.str)),(48, .int .i64 l.vars.length),(49, .int .i64 q.1)])
     (fun q hp3 nx3=>q.1≤l.vars.length∧nx2+2≤nx3∧aS hp3 nx3∧Kf (nx1+2) h2 hp3∧hp3 nx2=some (.arr (.agg 5) [.agg [.int .i64 kd, .int .i64 k, .sl .leaf ow (hv.map V.str), .sl .leaf q.2 ((hv++(l.vars.take q.1).filter fun v=> !bP v hv).map V.str), .sl .leaf .nil []]])∧
       Acc hp3 (nx1+2) q.2 ((hv++(l.vars.take q.1).filter fun v=> !bP v hv).map V.str))
     (fun q=>l.vars.length-q.1) (0,oc) ⟨KG _,Zw,by exact dmo hd2,by exact kep Hp.same.aAn,by simp only[QC,QB,KJ,go_sem,reduceIte,jA,jB,jC,jD,reduceCtorEq,jE,jF],by simp only[QC,QB,KJ];exact acc aBH hd2⟩ (by simp only[WkL,aD,jH,jI,jJ,jK,go_sem,reduceIte,jA,jB,jC,jD,reduceCtorEq,jE,jF]) ?_
    rintro⟨j,ow2⟩ hp3 nx3 ⟨hj,aRq,hdm,aHO,hb9,aAM⟩;generalize hQ2:aV _ _ _ _ _=Q2;dsimp only at hj aAM hb9;refine Zk ?_;have n9:nx2<nx3:=or;rcases KH j l.vars.length with hjl|hjg
    ·have hc2:decide ((j:Int)<(l.vars.length:Int))=true:=dct;have hgv:=aJ V.str l.vars j hjl;have hw2:IntKind.i64.wrap ((j:Int)+1)=((j+1:Nat):Int):=wrp;have htk:hv++(l.vars.take (j+1)).filter (fun v=> !bP v hv)=(hv++(l.vars.take j).filter fun v=> !bP v hv)++(if bP l.vars[j] hv=true then [] else [l.vars[j]]):=by
      rw[Kh hjl,List.filter_append,KP];congr 2;cases hq:bP l.vars[j] hv<;>simp[hq]
     have hwl:(hv++(l.vars.take j).filter fun v=> !bP v hv).length≤100000000:=by
      rw[Kz];have:=Ql (fun v=> !bP v hv) (l.vars.take j);rw[KA] at this;omega
     generalize (hv++(l.vars.take j).filter fun v=> !bP v hv)=W at hb9 aAM htk hwl;generalize l.vars[j]=x at hgv htk;have C1:∀h:Hp,aK Tryz.prog 41 [.sl .leaf ow (hv.map V.str), .str x] h (.bool (bP x hv)):=fun h=>kC ow hv or x h;have hml:(W.map V.str).length=W.length:=jK ..;cases hb:bP x hv with
     |true=>
      rw[hb] at C1 htk;rw[if_pos rfl,KJ] at htk;refine aue (e6 hc2 hgv hjl (@jK ByteArray V) jG hw2) ?_;rw[←hQ2];exact aF (j+1,ow2) Zw ⟨hjl,or,dmo hdm,kep aHO,by dsimp only;rw[htk];exact hb9,by dsimp only;rw[htk];exact aAM⟩ (by simp only[WkL,aD,jH,jI,jJ,go_sem,reduceIte,jA,jB,jC,jD,reduceCtorEq,jE,jF])
     |false=>
      rw[hb] at C1 htk;rw[if_neg Zm] at htk;have aEI:∀H:Hp,H.aA7 ow2 nx2=if ow2= .tok nx2 then none else H nx2:=fun H=>by
       unfold Hp.aA7;cases ow2 with
       |tok m=>
        simp only[Hp.del,Own.tok.injEq];by_cases hm:nx2=m
        ·simp[hm]
        rw[if_neg hm,if_neg (fun e=>hm e.symm)]
       |_=>simp
      have bBq:(ow2= .tok nx2)=False:=eq_false fun e=>by
       rcases aAM with⟨_,h⟩|⟨_,id,_,h,h3⟩
       ·rw[h] at e;cases e
       rw[h] at e;injection e with e;rw[e,hb9] at h3;cases h3
      refine aue (e12 hc2 hgv hjl (@jK ByteArray V) jG hw2 hb9 n9 hml hwl aEI bBq) ?_;rw[←hQ2];have f9:(nx3+1=nx2)=False:=fls;refine aF (j+1, .tok (nx3+1)) Zw ⟨hjl,or,dmo hdm,rC aHO aAM,?_,?_⟩ (by simp only[WkL,aD,jH,jI,jJ,go_sem,reduceIte,jA,jB,jC,jD,reduceCtorEq,jE,jF])
      ·dsimp only;rw[htk,Ko];simp only[Kv,Kx,go_sem,reduceIte,jA,jB,jC,jD,reduceCtorEq,jE,jF]
      dsimp only;rw[htk,Ko];exact .inr ⟨Zm,nx3+1,or,rfl,by simp only[f9,go_sem,reduceIte,jA,jB,jC,jD,reduceCtorEq,jE,jF]⟩
    have hc2:decide ((j:Int)<(l.vars.length:Int))=false:=dcf;refine aue hc2 ?_;rw[←hQ2];refine au ?_;rw[Kt or,←hwt] at hb9 aAM;rw[←hSQ];refine fX (s5 (n:=nx2) (k:= .agg 5) hb9) ?_;simp only[Kv,Kx];rw[y0 kd k ow ow2 hv (nmL hv l.ts) how aAM];clear aAM hQ2 hSQ hwt;have aAp:∀m,m<nx1→hp3 m=hp m:=fun m hm=>by
     rw[aHO m or,hs2 m or];simp only[Ka];rw[if_neg or,if_neg or]
    have hc0:=(aAp nx n1).trans hb0;have hc1:=(aAp (nx+1) n2).trans hb1;have hc2:=(aAp (nx+2) n3).trans hb2;have hc8:=(aHO nx1 or).trans hb8;have aHk:Kf nx h' hp3:=fun m hm=>by rw[aAp m or];exact hsm m hm
    have aAM:Acc hp3 (nx+4) oS (ps.map PS.v):=aDL.imp id fun⟨a,id,b,c,d⟩=>⟨a,id,b,c,by rw[aAp id (by rcases aDL with h|⟨_,id2,_,h2,h3⟩;exact absurd h.1 a;rw[c] at h2;injection h2 with h2;rw[h2];exact bB6 _ _ h3)];exact d⟩;have m1:nx<nx3:=or;have m2:nx+1<nx3:=or;have m3:nx+2<nx3:=or;have m4:nx1<nx3:=or;have k1:(nx1=nx2)=False:=fls;have k2:(nx=nx2)=False:=fls;have k3:(nx+1=nx2)=False:=fls;have k4:(nx+2=nx2)=False:=fls;have k5:(nx2=nx+2)=False:=fls;have hPS:(gU l k hv).v= .agg [.int .i64 kd, .int .i64 k,lst .leaf (hv.map V.str),lst .leaf ((nmL hv l.ts).map V.str),lst .leaf ((if l.k=1∨l.k=2 then oC l.a hv else []).map kV)]:=by rw[←hkd];rfl
    generalize nmL hv l.ts=W at hPS hba hb9⊢;obtain⟨ow3,aRo⟩:=bQ .leaf (W.map V.str);have hml:(ps.map PS.v).length=ps.length:=jK ..;rw[how,aRo] at hPS⊢;have hd0:∀H:Hp,H.aA7 oS nx=H nx:=fun H=>gS fun id e=>by have:=aAM.ge id e;omega
    have hd1:∀H:Hp,H.aA7 oS (nx+1)=H (nx+1):=fun H=>gS fun id e=>by have:=aAM.ge id e;omega
    have hd2:∀H:Hp,H.aA7 oS (nx+2)=H (nx+2):=fun H=>gS fun id e=>by have:=aAM.ge id e;omega
    have hd9:∀H:Hp,H.aA7 oS nx2=H nx2:=fun H=>gS fun id e q=>by
     rcases aAM with h|⟨_,id2,_,h2,h3⟩
     ·rw[h.2] at e;cases e
     rw[h2] at e;injection e with e;rw[e,←q,hb9] at h3;cases h3
    by_cases hk3:l.k=3
    ·have g3:(kd != 3)=false:=bnf (by rw[←hkd,hk3];rfl);rw[if_neg or] at hPS;have hPS:(gU l k hv).v= .agg [.int .i64 kd, .int .i64 k, .sl .leaf ow (hv.map V.str), .sl .leaf ow3 (W.map V.str), .sl .leaf .nil []]:=hPS;refine aue (e11 hc hc0 hc2 hc8 m3 g3 n9 hpl hml (e4 k4 k5 k1 (e4 hd0 hd1 hd2 hd9)) (e2 hw m1)) ?_;rw[←hQ];have hW:lst .leaf ((cW r (O.take (i+1)) []).map V.str)= .sl .leaf ow3 (W.map V.str):=by rw[hba,aRo]
     refine aF (i+1, .tok (nx3+1)) Zw ⟨hlt,or,dmo hdm,rC aHk aAM,by simp only[hd0,hc0,m1,k2,go_sem,reduceIte,jA,jB,jC,jD,reduceCtorEq,jE,jF],by simp only[hd1,hc1,m2,k3,go_sem,reduceIte,jA,jB,jC,jD,reduceCtorEq,jE,jF],?_,?_⟩ (by simp only[WkL,aD,jH,jI,jJ,hW,go_sem,reduceIte,jA,jB,jC,jD,reduceCtorEq,jE,jF])
     ·dsimp only;rw[hpa,Ko,Kv,Kx,hPS];simp only[go_sem,reduceIte,jA,jB,jC,jD,reduceCtorEq,jE,jF]
     dsimp only;rw[hpa,Ko,Kv,Kx,hPS];exact .inr ⟨Zm,nx3+1,or,rfl,by simp only[(fls:(nx3+1=nx+2)=False),go_sem,reduceIte,jA,jB,jC,jD,reduceCtorEq,jE,jF]⟩
    have aHU:l.k=1∨l.k=2:=by
     have:=(qI hrl);omega
    have g3:(kd != 3)=true:=by
     rw[←hkd];rcases aHU with e|e<;>simp[e]
    have hlp:aX (.agg 2) 1 (.agg T)= .agg [.str l.a.r,trs l.a.o l.a.l]:=congrArg V.agg hat
    obtain⟨o5,ho5⟩:=bQ .leaf ((oC l.a hv).map kV);have C2:=fun h=>BV l.a (by
     unfold bG at hrl;rw[if_pos aHU] at hrl;unfold fO at hrl;simp only[KE,decide_eq_true_eq] at hrl;have:=hrl.1.1.1.2;omega) ow hv or h
    simp only[Am.v,trs] at C2;rw[ho5] at C2;rw[if_pos aHU,ho5] at hPS;have bBt:((oC l.a hv).map kV).length=(oC l.a hv).length:=jK ..;refine aue (e11 hc hc0 hc2 hc8 m3 g3 n9 hpl hml (e4 k4 k5 k1 (e5 hd0 hd1 hd2 hd9 m4)) (e5 hw m1 bBt hlp trs.eq_1)) ?_;rw[←hQ];have hW:lst .leaf ((cW r (O.take (i+1)) []).map V.str)= .sl .leaf ow3 (W.map V.str):=by rw[hba,aRo]
    refine aF (i+1, .tok (nx3+2)) Zw ⟨hlt,or,dmo hdm,rC aHk aAM,by simp only[hd0,hc0,m1,k2,go_sem,reduceIte,jA,jB,jC,jD,reduceCtorEq,jE,jF],by simp only[hd1,hc1,m2,k3,go_sem,reduceIte,jA,jB,jC,jD,reduceCtorEq,jE,jF],?_,?_⟩ (by simp only[WkL,aD,jH,jI,jJ,hW,go_sem,reduceIte,jA,jB,jC,jD,reduceCtorEq,jE,jF])
    ·dsimp only;rw[hpa,Ko,Kv,Kx,hPS];simp only[go_sem,reduceIte,jA,jB,jC,jD,reduceCtorEq,jE,jF]
    dsimp only;rw[hpa,Ko,Kv,Kx,hPS];exact .inr ⟨Zm,nx3+2,or,rfl,by simp only[(fls:(nx3+2=nx+2)=False),go_sem,reduceIte,jA,jB,jC,jD,reduceCtorEq,jE,jF]⟩
   have hc:decide ((i:Int)<(O.length:Int))=false:=dcf;refine aue hc ?_;rw[←hQ];rw[Kt or] at aDL hb2;refine aue (e5 hb1 hb2 n1 n2 n3) ?_;refine aP (by simp only[hb1,hb2,go_sem,reduceIte,jA,jB,jC,jD,reduceCtorEq,jE,jF]) h' (lef hd (hsm.le hd (Kd _))) ⟨?_,Kd _⟩;rw[←uh r aDL];refine Zn ?_;rfl
end Go.Proofs.YtgbiopfghdilnaaGreatDoor
namespace Go.Proofs.YtgbiopfghdilnaaGreatDoor
open Go.RowKit Go.Sort
theorem pL(r:Ru):∀(ks:List Nat) (hv:List ByteArray),hv.Nodup→(cW r ks hv).Nodup
 | [],hv,h=>h
 |k::ks,hv,h=>pL r ks _ (sD h)
end Go.Proofs.YtgbiopfghdilnaaGreatDoor
