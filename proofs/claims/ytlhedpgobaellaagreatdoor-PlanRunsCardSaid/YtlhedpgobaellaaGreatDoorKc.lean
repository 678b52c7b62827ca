/-
Texts of this proof,one behind the other. No conditions.
-/
import Derived.Test.YtlhedpgobaellaaGreatDoorKa
import Derived.Laws.MakeOwn
import Derived.Lib.AppendZeros
import Derived.RangeFuncNested
import Derived.Deep.LoopGhost
import Derived.Sort.LoopGhostIn
import Derived.TacticsIn
import Derived.OrdersIn
import Derived.RangeFuncSeq
import Derived.RangeFuncBound
import Derived.Scope
import Derived.StillTailTactics
open Go.Proofs.YtlhedpgobaellaaGreatDoor.V renaming undef→Ka,fits→Kh,cell→KA,aAE→KB,cells→KM
open Go.Proofs.YtlhedpgobaellaaGreatDoor.Hp renaming set→Kb,del→Kk
open List renaming getD_eq_getElem?_getD→Kc,getElem?_append_left→Ki,getElem?_eq_getElem→Km,getElem?_append_right→Ko,range→Kq,replicate→Kw,getElem?_eq_some_iff→KC,getElem?_take→KD,take_append_of_le_length→KH,getElem?_toArray→KJ,length_append→KK,append_assoc→KL,length_replicate→KN,mem_append→KO,eq_nil_of_length_eq_zero→KP,getElem_mem→KU,all_eq_true→KV,length_map→Qb,filter_cons→Qd,getElem?_drop→Qf,getElem?_set_self→Qg,contains_iff_mem→Qj,mem_map→Qm,mem_of_mem_take→Qo,getElem?_set_ne→Qp,getElem_of_mem→Qq,size_toArray→Qu,length_range→Qv,getElem?_eq_none→QA,mem_flatMap→QB,mem_of_mem_drop→QD,length_eraseIdx→QE,mem_filter→QF,getElem?_concat_length→QI,mem_or_eq_of_mem_set→QL,mem_take_iff_getElem→QN,any_eq_true→QP,getElem?_replicate→QQ,length_set→QR,mem_iff_getElem→QW,length_pos_iff→QY,mem_cons→Wa,map_congr_left→Wb,findIdx?_cons→Wc,getElem?_map→Wj,foldl_append→Wl,zipIdx_cons→Wo,length_take→Wq,length_drop→Wr,ext_getElem→Ws,take_length→Wu,foldl_cons→Ww,find?_cons→Wy,mem_range→Wz,map_cons→WA
open Option renaming bind_eq_some_iff→Kd,map_eq_some_iff→Kg,getD_some→KW,map_some→Qh,bind_some→Wt,none→WK
open Array renaming getD_eq_getD_getElem?→Ke,getElem?_eq_getElem→Kz,getElem?_append_left→KG,getElem?_eq_some_iff→KY,mem_toList_iff→Qc,getElem?_append_right→Ql,getElem?_setIfInBounds_self→Qw,ext'→Qx,getElem?_setIfInBounds_ne→Qy,mem_filter→Qz,size_append→QK,getElem?_eq_none→QS,length_toList→QZ,size_pos_iff→Wd,toList_push→Wh,getElem_mem→Wi,range→Wp
open Go.Proofs.YtlhedpgobaellaaGreatDoor.Ker renaming aAH→Kf,push→Kt
open Go renaming undef→Kj
open Go.Builtin renaming zeroCells→Kp,append_→KI,lenOf→Qe,clear_→Qk,firstCells→QC,delete_→QJ
open Go.Result renaming andThen_ok→Ks
open Nat renaming add_mul→Ku,mul_le_mul_right→Kx,le_refl→KF,le_mul_of_pos_right→KR,zero_add→Qa,add_zero→QH,one_mul→QT,add_assoc→QX,lt_or_ge→Wg,lt_trichotomy→Wm,zero_mul→WE,add_comm→WF,mul_comm→WG,le_trans→WH,mul_pos→WI
open Go.Sem renaming run_bind→Kv,run_pure→KE
open Bool renaming and_eq_true→Ky,or_eq_true→QG,not_eq_true'→QM,false_or→WB
open Go.Instr renaming sameBits→KQ,buildSlice→KS,makeSlice→KX,checkKey→QO,keyThatStays→QU,mapUpdate→Wf,mapEntry→Wn,storeAt→Wv,fill→WC,next→WD
open Go.World renaming putObj_heap_other→KZ,shape?→Qi,putObj_heap_same→Qr,cell?→Qt
open Int renaming natCast_mul→Wx,le_refl→WJ
set_option linter.all false
set_option maxHeartbeats 8000000
namespace Go.Proofs.YtlhedpgobaellaaGreatDoor
open Go.RowKit
def fB(a:Nat)(own:Own)(ys:List V):Own:=
 match own with
 | .nil=>if ys.isEmpty then .nil else .tok a
 | .full=>if ys.isEmpty then .full else .tok a
 | .tok _=> .tok a
 | .free=> .free
def gC(h:Hp)(a:Nat)(own:Own)(ys:List V):Hp:=
 match own with
 | .nil=>if ys.isEmpty then h else h.set a .tip
 | .full=>if ys.isEmpty then h else h.set a .tip
 | .tok n=>(h.del n).set a .tip
 | .free=>h
def xO(K:Ker)(k:Sh)(es:List V)(cv:Value):Prop:=∃a cap,cv= .slice a es.length cap∧es.length≤cap∧(∀e∈es,e.fits k=true)∧∃f:Nat→Value,
 (∀j,j<es.length*k.size→∃ad,a=some ad∧K.w.cell? (ad.add j)=some (f j))∧(∀j,j<es.length*k.size→(f j).oneCell'=true)∧
 ∀i,i<es.length→∀j,j<k.size→VR K ((es.getD i Ka).cell j) (f (i*k.size+j))
theorem ov{K:Ker}{k:Sh}{es:List V}(hfit:∀e∈es,e.fits k=true){f:Nat→Value}(hv:∀i,i<es.length→∀j,j<k.size→VR K ((es.getD i Ka).cell j) (f (i*k.size+j))):∀j,j<es.length*k.size→(f j).oneCell'=true:=by
 intro j hj;obtain⟨h1,h2,h3⟩:=tA hj;have:=hv (j / k.size) h1 (j % k.size) h2;rw[h3] at this;have aAm:es.getD (j / k.size) Ka∈es:=by
  rw[Kc,Km h1];exact KU _
 refine this.aA5 ?_;have hf:=hfit _ aAm;cases k with
 |leaf=>
  have:j % Sh.leaf.size=0:=by simp[Sh.size,Nat.mod_one]
  rw[this];simp only[Kh] at hf;generalize es.getD (j / Sh.leaf.size) Ka=e at hf;cases e<;>first|rfl|(simp[KB] at hf)
 |agg n=>
  generalize es.getD (j / (Sh.agg n).size) Ka=e at hf;cases e<;>simp[Kh] at hf;rename_i cs;show((cs).getD (j % (Sh.agg n).size) Ka).aAE=true;have hlt:j % (Sh.agg n).size<cs.length:=by rw[hf.1];exact h2
  rw[Kc,Km hlt];exact hf.2 _ (KU _)
theorem tf{K:Ker}{k:Sh}{own:Own}{es:List V}{cv:Value}(r:VR K (.sl k own es) cv):xO K k es cv:=by
 cases r with
 |slnil=>exact⟨none,0,rfl,KF _,fun e he=>absurd he Zm,fun _=>Kj,fun j hj=>by simp at hj,fun j hj=>by simp at hj,fun i hi=>by simp at hi⟩
 |slz _ ad=>exact⟨some ad,0,rfl,KF _,fun e he=>absurd he Zm,fun _=>Kj,fun j hj=>by simp at hj,fun j hj=>by simp at hj,fun i hi=>by simp at hi⟩
 |sl _ _ _ b off cap f hb hfit hcell hst hv hcap hnil hfull htok=>
  exact⟨some ⟨b,off,none⟩,cap,rfl,hcap,hfit,f,fun j hj=>⟨_,rfl,by rw[dO];exact hcell j hj⟩,ov hfit hv,hv⟩
def dQ(h:Hp):V→Option (Sh×List V)
 | .sl k _ es=>some (k,es)
 | .rs n k off len=>match h n with
  |some (.arr k' es)=>if k'=k∧off+len≤es.length then some (k,(es.drop off).take len) else none
  |_=>none
 |_=>none
theorem pU{K:Ker}{h:Hp}(hr:Rel K h){v:V}{cv:Value}(r:VR K v cv){k:Sh}{es:List V}(he:dQ h v=some (k,es)):xO K k es cv:=by
 cases v with
 |sl k' own es'=>simp only[dQ,Option.some.injEq,Prod.mk.injEq] at he;obtain⟨rfl,rfl⟩:=he;exact tf r
 |rs n k' off len=>
  simp only[dQ] at he;cases hn:h n with
  |none=>simp[hn] at he
  |some b=>cases b with
   |tip=>simp[hn] at he
   |obj o _=>simp[hn] at he
   |mp _ _=>simp[hn] at he
   |mit _ _ _ _=>simp[hn] at he
   |arr k2 es2=>
    rw[hn] at he;simp only at he;split at he
    ·rename_i hc;obtain⟨rfl,hle⟩:=hc;simp only[Option.some.injEq,Prod.mk.injEq] at he;obtain⟨rfl,rfl⟩:=he;have hb:=hr.blk n _ hn;cases hb with
     |arr _ _ c T hh hsz himm hfit hv=>
      cases r with
      |rs _ _ _ _ cap hl hcap hm=>
       have hlen:((es2.drop off).take len).length=len:=by simp;omega
       have hfit':∀e∈(es2.drop off).take len,e.fits k2=true:=fun e he=>hfit e (QD (Qo he));have hget:∀i,i<len→((es2.drop off).take len).getD i Ka=es2.getD (off+i) Ka:=fun i hi=>by
        simp only[Kc,KD,if_pos hi,Qf]
       have hv':∀i,i<((es2.drop off).take len).length→∀j,j<k2.size→VR K ((((es2.drop off).take len).getD i Ka).cell j) ((fun j=>c.getD (off*k2.size+j) Kj) (i*k2.size+j)):=by
        intro i hi j hj;rw[hlen] at hi;rw[hget i hi];have:=hv (off+i) or j hj;have e:(off+i)*k2.size+j=off*k2.size+(i*k2.size+j):=by rw[Ku];omega
        rw[e] at this;exact this
       refine⟨some ⟨K.mu n,off*k2.size,none⟩,cap,by rw[hlen],by rw[hlen];exact hcap,hfit',fun j=>c.getD (off*k2.size+j) Kj,?_,ov hfit' hv',hv'⟩;intro j hj;rw[hlen] at hj;refine⟨_,rfl,?_⟩;rw[dO];have:(off+len)*k2.size≤es2.length*k2.size:=Kx _ hle;rw[Ku] at this;simp only[Qt,hh];rw[Ke,Kz or];rfl
    simp at he
 |_=>simp[dQ] at he
theorem zV{k:Sh}{xs ys:List V}(hx:∀e∈xs,e.fits k=true)(hy:∀e∈ys,e.fits k=true):∀e∈xs++ys,e.fits k=true:=fun e he=>by
 rcases KO.1 he with h|h
 ·exact hx e h
 exact hy e h
theorem nU{K:Ker}{k:Sh}{xs ys:List V}{f g:Nat→Value}{c:Nat→Value}(hx:∀i,i<xs.length→∀j,j<k.size→VR K ((xs.getD i Ka).cell j) (f (i*k.size+j)))
 (hy:∀i,i<ys.length→∀j,j<k.size→VR K ((ys.getD i Ka).cell j) (g (i*k.size+j)))
 (hf:∀j,j<xs.length*k.size→c j=f j) (hg:∀j,j<ys.length*k.size→c (xs.length*k.size+j)=g j):
 ∀i,i<(xs++ys).length→∀j,j<k.size→VR K (((xs++ys).getD i Ka).cell j) (c (i*k.size+j)):=by
 intro i hi j hj;rw[KK] at hi;by_cases e:i<xs.length
 ·have e1:(xs++ys).getD i Ka=xs.getD i Ka:=by simp only[Kc];rw[Ki e]
  rw[e1,hf _ (cL hj e)];exact hx i e j hj
 have e1:(xs++ys).getD i Ka=ys.getD (i-xs.length) Ka:=by simp only[Kc];rw[Ko or]
 have e2:i*k.size+j=xs.length*k.size+((i-xs.length)*k.size+j):=by
  rw[←QX,←Ku];congr 2;omega
 rw[e1,e2,hg _ (cL hj or)];exact hy _ or j hj
theorem j1{P:Program}{K:Ker}{h:Hp}(hr:Rel K h){a:Nat}(ha:¬K.live a){k:Sh}{t e:TypeId}{i:TypeInfo}{z:Value}(ht:P.underlying t=some (.slice e))(hi:P.info? e=some i)(hz:i.zero=some z)
 (hsz:i.size=k.size) (hzs:z.cells.size=k.size) (aAk:0<k.size) {ty:TypeId} {own:Own} {xs ys:List V} {cx cy:Value} (hx:VR K (.sl k own xs) cx) (hy:xO K k ys cy)
 (aA2:own≠ .free) (aGq:∀n,own= .tok n→h n=some .tip) (hb:(xs.length+ys.length)*i.bytes≤140737488355328) (hm:xs.length+ys.length≤9223372036854775807):
 ∃cv K',(KI #[t,t] ty #[cx,cy]).run P K.w= .ok cv K'.w∧K.le K'∧(∀n,K'.live n→K.live n∨n=a)∧VR K' (.sl k (fB a own ys) (xs++ys)) cv∧Rel K' (gC h a own ys):=by
 obtain⟨ay,aDx,rfl,hcy,hfy,g,gc,gl,gv⟩:=hy;obtain⟨ax,aCe,rfl,hcx,hfx,f,fc,fl,fv⟩:=tf hx;have hfit:=zV hfx hfy;have hnl:((Kq (ys.length*k.size)).map g).length=ys.length*i.size:=by simp[hsz]
 have hol:((Kq (xs.length*k.size)).map f).length=xs.length*i.size:=by simp[hsz]
 have hz2:z.cells.size=i.size:=or
 --what is new,wherever it lies
 have grown:∀(K0:Ker) (h0:Hp) (w0:World) (nc:Nat),K0.w=w0→K.le K0→(∀n,K0.live n→K.live n)→Rel K0 h0→xs.length+ys.length≤nc→
  ∃K',K'.w=w0.alloc (.cells (((Kq (xs.length*k.size)).map f).toArray++((Kq (ys.length*k.size)).map g).toArray++Kp z.cells (nc-(xs.length+ys.length))) e)∧K.le K'∧(∀n,K'.live n→K.live n∨n=a)∧
   VR K' (.sl k (.tok a) (xs++ys)) (.slice (some ⟨w0.heap.size,0,none⟩) (xs++ys).length nc)∧Rel K' (h0.set a .tip):=by
  intro K0 h0 w0 nc hw0 aCN hl0 hr0 hnc;subst hw0;have hcs:∀j,j<(xs.length+ys.length)*k.size→(((Kq (xs.length*k.size)).map f).toArray++((Kq (ys.length*k.size)).map g).toArray++Kp z.cells (nc-(xs.length+ys.length))).getD j Kj=if j<xs.length*k.size then f j else g (j-xs.length*k.size):=by
   intro j hj;rw[Ku] at hj;rw[Ke,KG (by simp;omega)];by_cases e:j<xs.length*k.size
   ·rw[KG (by simp;omega),if_pos e];simp[e]
   rw[Ql (by simp;omega),if_neg e];have:j-xs.length*k.size<ys.length*k.size:=or;simp[this]
  obtain⟨K',q1,q2,q3,q4,q5⟩:=kX (K:=K0) (h:=h0) hr0 (fun hl=>ha (hl0 a hl)) (k:=k) (es:=xs++ys) hfit (((Kq (xs.length*k.size)).map f).toArray++((Kq (ys.length*k.size)).map g).toArray++Kp z.cells (nc-(xs.length+ys.length))) e nc (by simpa using hnc)
   (by
     simp only[QK,Qu,Qb,Qv,size_zeroCells,hzs];have:nc*k.size=(xs.length+ys.length)*k.size+(nc-(xs.length+ys.length))*k.size:=by rw[←Ku];congr 1;omega
     rw[this,Ku];omega)
   (nU (f:=f) (g:=g) (fun i hi j hj=>(fv i hi j hj).mono aCN) (fun i hi j hj=>(gv i hi j hj).mono aCN) (c:=fun j=>(((Kq (xs.length*k.size)).map f).toArray++((Kq (ys.length*k.size)).map g).toArray++Kp z.cells (nc-(xs.length+ys.length))).getD j Kj)
     (fun j hj=>by rw[hcs j (by rw[Ku];omega),if_pos hj])
     (fun j hj=>by rw[hcs _ (by rw[Ku];omega),if_neg or];congr 1;omega))
  exact⟨K',q1,aCN.trans q2,fun n hn=>(q3 n hn).imp (hl0 n) id,q4,q5⟩
 have hxe:xs=[]→((Kq (xs.length*k.size)).map f).toArray=#[]:=fun e=>by subst e;simp
 by_cases hye:ys=[]
 ·--nothing is appended
  subst hye;have aAe:∀(b:Option Addr),(KI #[t,t] ty #[.slice b xs.length aCe, .slice ay 0 aDx]).run P K.w= .ok (.slice b xs.length aCe) K.w:=by
   intro b;have h1:xs.length≤aCe:=hcx;cases ay<;>cases b<;>simp[KI,run_underlying ht,sizeOf,typeInfo,hi,Qe,QC,loadCells,loadCellsFrom,h1,storeCells]
  simp only[List.append_nil];cases hx with
  |slnil=>exact⟨_,K,aAe none, .refl K,fun n hn=> .inl hn,by simpa [fB] using VR.slnil k,by simpa [gC] using hr⟩
  |slz=>exact absurd rfl aA2
  |sl _ _ _ b off cap f' hb' hfit' hcell hst hv hcap hnil hfull htok=>
   cases own with
   |nil=>exact absurd rfl hnil
   |free=>exact absurd rfl aA2
   |full=>exact⟨_,K,aAe _, .refl K,fun n hn=> .inl hn,by simpa [fB] using VR.sl k .full xs b off aCe f' hb' hfit' hcell hst hv hcap hnil hfull htok,by simpa [gC] using hr⟩
   |tok n=>
    have htn:=aGq n rfl;obtain⟨hln,htk⟩:=htok n rfl;have hle:=K.aAT (b:=K.mu n) (m:=K.imm (K.mu n)) ha (KF _);refine⟨_,K.aAH a (K.mu n) (K.imm (K.mu n)),aAe _,hle,fun n hn=>hn.symm,?_,?_⟩
    ·refine .sl k (.tok a) xs b off aCe f' hb' hfit' hcell (fun j hj=>hle.still hb' (hst j hj)) (fun i hi j hj=>(hv i hi j hj).mono hle) hcap Zm Zm ?_;intro m hm;injection hm with hm;subst hm;refine⟨.inl rfl,?_⟩;rcases htk with q|⟨q1,q2,q3⟩
     ·exact .inl q
     refine .inr ⟨by simp[Kf,q1],?_,q3⟩;have hbr:=hr.blk n _ htn;cases hbr with
     |tip c T hh hi ht=>simp[Kf,hi,q2]
    refine hr.aAH htn ha (KF _) ?_;have hbr:=hr.blk n _ htn;cases hbr with
    |tip c T hh hi ht=>exact .tip c T (by simpa [Kf] using hh) (by simp[Kf]) (by simpa [Kf,hi] using ht)
 have hyl:0<ys.length:=QY.2 hye;have aD7:ys.isEmpty=false:=by cases ys with
  |nil=>exact absurd rfl hye
  |cons _ _=>rfl
 obtain⟨ady,aPx⟩:∃ad,ay=some ad:=by
  obtain⟨ad,h1,_⟩:=gc 0 (WI hyl aAk);exact⟨ad,h1⟩
 subst aPx;have aCL:∀j u,((Kq (ys.length*k.size)).map g)[j]?=some u→K.w.cell? (ady.add j)=some u:=by
  intro j u hju;have hlt:j<ys.length*k.size:=by
   have:=(KC.1 hju).1;simpa using this
  obtain⟨ad,e1,e2⟩:=gc j hlt;injection e1 with e1;subst e1;rw[e2];simp[hlt] at hju;rw[hju]
 cases hx with
 |slz=>exact absurd rfl aA2
 |slnil=>
  have aAe:=run_append_nil (P:=P) K.w t ty e i z ht hi hz ady ys.length aDx _ hnl aCL hyl (by simp at hm;omega) (by simp at hb;omega);obtain⟨K',q1,q2,q3,q4,q5⟩:=grown K.drew h K.w.drew (grownCap K.w ys.length 0 e) rfl K.le_drew (fun n hn=>hn) hr.drew (by have:=grownCap_ge K.w ys.length 0 e;simpa using this);refine⟨_,K',?_,q2,q3,by simpa [fB,aD7] using q4,by simpa [gC,aD7] using q5⟩;rw[q1];rw[show([]:List V).length=0 from rfl,aAe];simp
 |sl _ _ _ b off cap f' hb' hfit' hcell hst hv hcap hnil hfull htok=>
  have holds:∀j u,((Kq (xs.length*k.size)).map f)[j]?=some u→K.w.cell? ((⟨b,off,none⟩:Addr).add j)=some u:=by
   intro j u hju;have hlt:j<xs.length*k.size:=by
    have:=(KC.1 hju).1;simpa using this
   obtain⟨ad,e1,e2⟩:=fc j hlt;injection e1 with e1;subst e1;rw[e2];simp[hlt] at hju;rw[hju]
  by_cases hroom:xs.length+ys.length≤aCe
  ·--in place
   cases own with
   |nil=>exact absurd rfl hnil
   |free=>exact absurd rfl aA2
   |full=>have:=hfull rfl;omega
   |tok n=>
    have htn:=aGq n rfl;obtain⟨hln,htk⟩:=htok n rfl;rcases htk with q|⟨q1,q2,T,m,q4,q5⟩
    ·omega
    have q3:¬K.fro b:=by rw[←q1];exact hr.base n _ htn
    have hbr:=hr.blk n _ htn;cases hbr with
    |tip c T' hh hi' ht'=>
     rw[q1] at hh hi';have hcs:m=c.size:=by simp[Qi,hh] at q4;exact q4.2.symm
     subst hcs;have aDA:off+xs.length*k.size+ys.length*k.size≤c.size:=by
      have:(xs.length+ys.length)*k.size≤aCe*k.size:=Kx _ hroom;rw[Ku] at this;omega
     have aD1:=run_storeCells_at P b (off+xs.length*k.size) T' ((Kq (ys.length*k.size)).map g) 0 c K.w hh (by simpa using aDA) (by
      intro u hu;obtain⟨j,hj,rfl⟩:=Qm.1 hu;exact gl j (by simpa using hj))
     simp only[QH,Qb,Qv] at aD1;generalize hc':(c.toList.take (off+xs.length*k.size)++(Kq (ys.length*k.size)).map g++c.toList.drop (off+xs.length*k.size+ys.length*k.size)).toArray=c' at aD1;have hcsz:c'.size=c.size:=by rw[←hc'];simp;omega
     have hcl:∀j,j<off+xs.length*k.size→c'[j]?=c[j]?:=by
      intro j hj;rw[←hc'];simp only[KJ,KL];rw[Ki (by simp;omega),KD,if_pos hj];simp
     have hcr:∀j,j<ys.length*k.size→c'[off+xs.length*k.size+j]?=some (g j):=by
      intro j hj;rw[←hc'];simp only[KJ,KL];rw[Ko (by simp;omega),Ki (by simp;omega)];have:off+xs.length*k.size+j-(c.toList.take (off+xs.length*k.size)).length=j:=by simp;omega
      rw[this];simp[hj]
     have himm:K.imm b=off+xs.length*k.size:=by rw[hi',q2]
     have hle1:=K.le_row b c' c T' hh hcsz q3 (fun o ho=>hcl o or);have aCJ:=hr.row (b1:= .tip) htn c' c T' (by rw[q1];exact hh) hcsz (fun o ho=>hcl o (by rw[q1] at ho;omega)) (by
      rw[q1];exact .tip c' T' (by show(K.w.setRow b c').heap[K.mu n]?=_;rw[q1];exact setRow_heap K.w b c c' T' (0,0) hh) (by show K.imm (K.mu n)=K.tp n;rw[q1,himm,q2]) (by show K.tp n≤_;rw[hcsz];omega))
     rw[q1] at aCJ;have hn1:(h.set n .tip) n=some .tip:=by simp[Kb]
     have hmu1:(K.row b c').mu n=b:=q1;have aAS:=(K.row b c').aAT (a:=a) (b:=b) (m:=off+(xs.length+ys.length)*k.size) ha (by show K.imm b≤_;rw[himm,Ku];omega);have aGh:=aCJ.aAH hn1 (a:=a) (m:=off+(xs.length+ys.length)*k.size) ha (by rw[hmu1];show K.imm b≤_;rw[himm,Ku];omega) (b1:= .tip) (by
      rw[hmu1];refine .tip c' T' ?_ ?_ ?_
      ·show(K.w.setRow b c').heap[if a=a then b else K.mu a]?=_;rw[if_pos rfl];exact setRow_heap K.w b c c' T' (0,0) hh
      ·simp[Kf]
      simp only[Kf,if_true];rw[hcsz,Ku];omega)
     rw[hmu1] at aGh;have aD8:((h.set n .tip).del n).set a .tip=(h.del n).set a .tip:=by
      funext x;unfold Kb Kk;by_cases e1:x=a
      ·simp[e1]
      by_cases e2:x=n<;>simp[e1,e2]
     rw[aD8] at aGh;have hle:=hle1.trans aAS;have bCP:xs.length*i.size=xs.length*k.size:=by rw[hsz]
     have hf:=run_firstCells_some (P:=P) K.w i.size ys.length ady ys.length aDx _ hnl aCL;refine⟨.slice (some ⟨b,off,none⟩) (xs.length+ys.length) aCe,(K.row b c').aAH a b (off+(xs.length+ys.length)*k.size),?_,hle,fun n hn=>hn.symm,?_,by simpa [gC] using aGh⟩
     ·have had:(⟨b,off,none⟩:Addr).add (xs.length*k.size)=⟨b,off+xs.length*k.size,none⟩:=dO _ _ _;simp only[hsz] at hf;simp only[KI,Kv,run_underlying ht,Ks,sizeOf,typeInfo,hi,Qe,hroom,hf,hsz,had];simp[run_underlying ht,hroom,hf,hi,hsz,had,aD1,Qe];rfl
     have aA1:=VR.sl (K:=(K.row b c').aAH a b (off+(xs.length+ys.length)*k.size)) k (.tok a) (xs++ys) b off aCe (fun j=>c'.getD (off+j) Kj)
      (by show b<(K.w.setRow b c').heap.size;rw[zK];exact hb') hfit
      (fun j hj=>by
        show(K.w.setRow b c').cell? _=_;simp only[Qt,setRow_heap K.w b c c' T' (0,0) hh];rw[KK,Ku] at hj;rw[Ke,Kz or];rfl)
      (fun j hj=> .inr (by
        show off+j<(if b=b then _ else _);rw[if_pos rfl];rw[KK] at hj;omega))
      (nU (f:=f') (g:=g) (fun i hi j hj=>(hv i hi j hj).mono hle) (fun i hi j hj=>(gv i hi j hj).mono hle) (c:=fun j=>c'.getD (off+j) Kj)
        (fun j hj=>by
          have h1:=hcell j hj;simp only[Qt,hh] at h1;have h2:=hcl (off+j) or;simp only[Ke,h2];simp at h1;rw[h1];rfl)
        (fun j hj=>by
          have h2:=hcr j hj;simp only[Ke,←QX,h2];rfl))
      (by simpa using hroom) Zm Zm
      (fun n' hn'=>by
        injection hn' with hn';subst hn';refine⟨.inl rfl, .inr ⟨by simp[Kf],by simp[Kf],T',c.size,?_,q5⟩⟩;show(K.w.setRow b c').shape? b=_;simp only[Qi,setRow_heap K.w b c c' T' (0,0) hh,hcsz])
     simpa [fB] using aA1
  --it grows
  have aAe:=run_append_grow (P:=P) K.w t ty e i z ht hi hz ⟨b,off,none⟩ xs.length aCe _ hol holds ady ys.length aDx _ hnl aCL or or (growslice_fits or hb);have hd:∀n,own= .tok n→(h.del n).le h:=fun n _=>h.aDP n;have hne:own≠ .nil:=hnil;have hge:=grownCap_ge K.w (xs.length+ys.length) aCe e;cases own with
  |nil=>exact absurd rfl hnil
  |free=>exact absurd rfl aA2
  |full=>
   obtain⟨K',q1,q2,q3,q4,q5⟩:=grown K.drew h K.w.drew (grownCap K.w (xs.length+ys.length) aCe e) rfl K.le_drew (fun n hn=>hn) hr.drew hge;exact⟨_,K',by rw[q1];exact aAe,q2,q3,by simpa [fB,aD7] using q4,by simpa [gC,aD7] using q5⟩
  |tok n=>
   obtain⟨K',q1,q2,q3,q4,q5⟩:=grown K.drew (h.del n) K.w.drew (grownCap K.w (xs.length+ys.length) aCe e) rfl K.le_drew (fun n hn=>hn) (hr.drew.weaken (h.aDP n)) hge;exact⟨_,K',by rw[q1];exact aAe,q2,q3,by simpa [fB] using q4,by simpa [gC] using q5⟩
theorem eO{K:Ker}{h:Hp}(hr:Rel K h){a:Nat}(ha:¬K.live a){k:Sh}{es:List V}(hf:∀e∈es,e.fits k=true)(c:Array Value)(e:TypeId)(cap:Nat)(hcap:es.length≤cap)(hsz:cap*k.size=c.size)
 (hv:∀i,i<es.length→∀j,j<k.size→VR K ((es.getD i Ka).cell j) (c.getD (i*k.size+j) Kj)):
 ∃K',K'.w=K.w.alloc (.cells c e)∧K.le K'∧(∀n,K'.live n→K.live n∨n=a)∧VR K' (.rs a k 0 es.length) (.slice (some ⟨K.w.heap.size,0,none⟩) es.length cap)∧Rel K' (h.set a (.arr k es)):=by
 have hle:=K.aAu a ha (.cells c e) 0;have hmu:(K.push a (.cells c e) 0).mu a=K.w.heap.size:=by simp[Kt]
 have hlen:es.length*k.size≤cap*k.size:=Kx _ hcap;refine⟨K.push a (.cells c e) 0,rfl,hle,fun n hn=>hn.symm,?_,?_⟩
 ·have:=VR.rs (K:=K.push a (.cells c e) 0) a k 0 es.length cap (.inl rfl) hcap ⟨e,c.size,by
   rw[hmu];show(K.w.alloc _).shape? _=_;simp only[Qi,cT],by simpa using hsz⟩
  rw[hmu] at this;simpa using this
 refine hr.set_push ha _ _ (.arr k es c e ?_ or ?_ hf fun i hi j hj=>(hv i hi j hj).mono hle)
 ·rw[hmu];exact cT _ _
 rw[hmu];simp[Kt]
theorem xf{k:Sh}{xs ys:List V}{f g:Nat→Value}{z:Array Value}(hz:z.size=k.size)(nc:Nat)(hnc:xs.length+ys.length≤nc):
 (((Kq (xs.length*k.size)).map f).toArray++((Kq (ys.length*k.size)).map g).toArray++Kp z (nc-(xs.length+ys.length))).size=nc*k.size∧
 (∀j,j<xs.length*k.size→(((Kq (xs.length*k.size)).map f).toArray++((Kq (ys.length*k.size)).map g).toArray++Kp z (nc-(xs.length+ys.length))).getD j Kj=f j)∧
 ∀j,j<ys.length*k.size→(((Kq (xs.length*k.size)).map f).toArray++((Kq (ys.length*k.size)).map g).toArray++Kp z (nc-(xs.length+ys.length))).getD (xs.length*k.size+j) Kj=g j:=by
 refine⟨?_,?_,?_⟩
 ·simp only[QK,Qu,Qb,Qv,size_zeroCells,hz];have:nc*k.size=(xs.length+ys.length)*k.size+(nc-(xs.length+ys.length))*k.size:=by rw[←Ku];congr 1;omega
  rw[this,Ku]
 ·intro j hj;rw[Ke,KG (by simp;omega),KG (by simp;omega)];simp[hj]
 intro j hj;rw[Ke,KG (by simp;omega),Ql Zm];simp[hj]
theorem gB{P:Program}{K:Ker}{h:Hp}(hr:Rel K h){a:Nat}(ha:¬K.live a){k:Sh}{t e:TypeId}{i:TypeInfo}{z:Value}(ht:P.underlying t=some (.slice e))(hi:P.info? e=some i)(hz:i.zero=some z)
 (hsz:i.size=k.size) (hzs:z.cells.size=k.size) (aAk:0<k.size) {ty:TypeId} {x:V} {xs ys:List V} {cx cy:Value} (hx:VR K x cx) (hy:xO K k ys cy) (hye:ys≠ [])
 (aA2:(x= .sl k .nil []∧xs=[])∨∃n,x= .rs n k 0 xs.length∧h n=some (.arr k xs)) (hb:(xs.length+ys.length)*i.bytes≤140737488355328) (hm:xs.length+ys.length≤9223372036854775807):
 ∃cv K',(KI #[t,t] ty #[cx,cy]).run P K.w= .ok cv K'.w∧K.le K'∧(∀n,K'.live n→K.live n∨n=a)∧VR K' (.rs a k 0 (xs.length+ys.length)) cv∧Rel K' ((match x with| .rs n _ _ _=>h.del n|_=>h).set a (.arr k (xs++ys))):=by
 obtain⟨ay,aDx,rfl,hcy,hfy,g,gc,gl,gv⟩:=hy;have hyl:0<ys.length:=QY.2 hye;have hnl:((Kq (ys.length*k.size)).map g).length=ys.length*i.size:=by simp[hsz]
 obtain⟨ady,aPx⟩:∃ad,ay=some ad:=by
  obtain⟨ad,h1,_⟩:=gc 0 (WI hyl aAk);exact⟨ad,h1⟩
 subst aPx;have aCL:∀j u,((Kq (ys.length*k.size)).map g)[j]?=some u→K.w.cell? (ady.add j)=some u:=by
  intro j u hju;have hlt:j<ys.length*k.size:=by
   have:=(KC.1 hju).1;simpa using this
  obtain⟨ad,e1,e2⟩:=gc j hlt;injection e1 with e1;subst e1;rw[e2];simp[hlt] at hju;rw[hju]
 rcases aA2 with⟨rfl,rfl⟩|⟨n,rfl,hn⟩
 ·cases hx with
  |slnil=>
   have aAe:=run_append_nil (P:=P) K.w t ty e i z ht hi hz ady ys.length aDx _ hnl aCL hyl (by simp at hm;omega) (by simp at hb;omega);have hge:ys.length≤grownCap K.w ys.length 0 e:=by have:=grownCap_ge K.w ys.length 0 e;simpa using this
   obtain⟨c1,c2,c3⟩:=xf (k:=k) (xs:=[]) (ys:=ys) (f:=g) (g:=g) (z:=z.cells) hzs (grownCap K.w ys.length 0 e) (by simpa using hge);simp only[List.length_nil,WE,Qa] at c1 c3;obtain⟨K',q1,q2,q3,q4,q5⟩:=eO (K:=K.drew) (h:=h) hr.drew (a:=a) ha hfy _ e (grownCap K.w ys.length 0 e) hge (by rw[c1]) (fun i hi j hj=>by
    rw[c3 _ (cL hj hi)];exact(gv i hi j hj).mono K.le_drew)
   refine⟨_,K',?_,K.le_drew.trans q2,q3,by simpa using q4,by simpa using q5⟩;rw[q1,aAe];simp;exact⟨rfl,rfl⟩
  |sl _ _ _ b off cap f' hb' hfit' hcell hst hv hcap hnil hfull htok=>exact absurd rfl hnil
 have hbr:=hr.blk n _ hn;cases hbr with
 |arr _ _ c T hh hcs himm hfit hv=>
  cases hx with
  |rs _ _ _ _ cap hl hcap hmm=>
   obtain⟨T',m,hm1,hm2⟩:=hmm;have hcm:m=c.size:=by simp[Qi,hh] at hm1;exact hm1.2.symm
   subst hcm;simp only[Qa,WE] at hm2⊢;have aFR:=zV hfit hfy;by_cases hroom:xs.length+ys.length≤cap
   ·have aDA:xs.length*k.size+ys.length*k.size≤c.size:=by
     have:(xs.length+ys.length)*k.size≤cap*k.size:=Kx _ hroom;rw[Ku] at this;omega
    have aD1:=run_storeCells_at P (K.mu n) (xs.length*k.size) T ((Kq (ys.length*k.size)).map g) 0 c K.w hh (by simpa using aDA) (by
     intro u hu;obtain⟨j,hj,rfl⟩:=Qm.1 hu;exact gl j (by simpa using hj))
    simp only[QH,Qb,Qv] at aD1;generalize hc':(c.toList.take (xs.length*k.size)++(Kq (ys.length*k.size)).map g++c.toList.drop (xs.length*k.size+ys.length*k.size)).toArray=c' at aD1;have hcsz:c'.size=c.size:=by rw[←hc'];simp;omega
    have hcl:∀j,j<xs.length*k.size→c'[j]?=c[j]?:=by
     intro j hj;rw[←hc'];simp only[KJ,KL];rw[Ki (by simp;omega),KD,if_pos hj];simp
    have hcr:∀j,j<ys.length*k.size→c'[xs.length*k.size+j]?=some (g j):=by
     intro j hj;rw[←hc'];simp only[KJ,KL];rw[Ko (by simp;omega),Ki (by simp;omega)];have:xs.length*k.size+j-(c.toList.take (xs.length*k.size)).length=j:=by simp;omega
     rw[this];simp[hj]
    have hle1:=K.le_row (K.mu n) c' c T hh hcsz (hr.base n _ hn) (fun o ho=>by rw[himm] at ho;omega);have hvs:∀i,i<(xs++ys).length→∀j,j<k.size→VR (K.row (K.mu n) c') (((xs++ys).getD i Ka).cell j) (c'.getD (i*k.size+j) Kj):=
     nU (f:=fun j=>c.getD j Kj) (g:=g) (fun i hi j hj=>(hv i hi j hj).mono hle1) (fun i hi j hj=>(gv i hi j hj).mono hle1) (c:=fun j=>c'.getD j Kj)
      (fun j hj=>by simp only[Ke,hcl j hj]) (fun j hj=>by simp only[Ke,hcr j hj];rfl)
    have aCJ:=hr.row (b1:= .arr k (xs++ys)) hn c' c T hh hcsz (fun o ho=>by rw[himm] at ho;omega) (.arr k (xs++ys) c' T (by show(K.w.setRow (K.mu n) c').heap[K.mu n]?=_;exact setRow_heap K.w (K.mu n) c c' T (0,0) hh) (by rw[KK,Ku,hcsz];exact aDA) himm aFR hvs);have hn1:(h.set n (.arr k (xs++ys))) n=some (.arr k (xs++ys)):=by simp[Kb]
    have hmu1:(K.row (K.mu n) c').mu n=K.mu n:=rfl;have aAS:=(K.row (K.mu n) c').aAT (a:=a) (b:=K.mu n) (m:=0) ha (by show K.imm (K.mu n)≤0;omega);have aGh:=aCJ.aAH hn1 (a:=a) (m:=0) ha (by show K.imm (K.mu n)≤0;omega) (b1:= .arr k (xs++ys)) (.arr k (xs++ys) c' T (by
     show(K.w.setRow (K.mu n) c').heap[if a=a then K.mu n else K.mu a]?=_;rw[if_pos rfl];exact setRow_heap K.w (K.mu n) c c' T (0,0) hh) (by rw[KK,Ku,hcsz];exact aDA) (by simp[Kf]) aFR (fun i hi j hj=>(hvs i hi j hj).mono aAS))
    have aD8:((h.set n (.arr k (xs++ys))).del n).set a (.arr k (xs++ys))=(h.del n).set a (.arr k (xs++ys)):=by
     funext x;unfold Kb Kk;by_cases e1:x=a
     ·simp[e1]
     by_cases e2:x=n<;>simp[e1,e2]
    rw[aD8] at aGh;have hf:=run_firstCells_some (P:=P) K.w i.size ys.length ady ys.length aDx _ hnl aCL;refine⟨.slice (some ⟨K.mu n,0,none⟩) (xs.length+ys.length) cap,(K.row (K.mu n) c').aAH a (K.mu n) 0,?_,hle1.trans aAS,fun n hn=>hn.symm,?_,aGh⟩
    ·have had:(⟨K.mu n,0,none⟩:Addr).add (xs.length*k.size)=⟨K.mu n,xs.length*k.size,none⟩:=by rw[dO,Qa]
     simp only[hsz] at hf;simp only[KI,Kv,run_underlying ht,Ks,sizeOf,typeInfo,hi,Qe,hroom,hf,hsz,had];simp[run_underlying ht,hroom,hf,hi,hsz,had,aD1,Qe];rfl
    have:=VR.rs (K:=(K.row (K.mu n) c').aAH a (K.mu n) 0) a k 0 (xs.length+ys.length) cap (.inl rfl) hroom ⟨T,c.size,by
     have hma:((K.row (K.mu n) c').aAH a (K.mu n) 0).mu a=K.mu n:=by simp[Kf]
     rw[hma];show(K.w.setRow (K.mu n) c').shape? _=_;simp only[Qi,setRow_heap K.w (K.mu n) c c' T (0,0) hh,hcsz],by simpa using hm2⟩
    have hma:((K.row (K.mu n) c').aAH a (K.mu n) 0).mu a=K.mu n:=by simp[Kf]
    rw[hma] at this;simpa using this
   have hol:((Kq (xs.length*k.size)).map fun j=>c.getD j Kj).length=xs.length*i.size:=by simp[hsz]
   have holds:∀j u,((Kq (xs.length*k.size)).map fun j=>c.getD j Kj)[j]?=some u→K.w.cell? ((⟨K.mu n,0,none⟩:Addr).add j)=some u:=by
    intro j u hju;have hlt:j<xs.length*k.size:=by
     have:=(KC.1 hju).1;simpa using this
    rw[dO,Qa];simp[hlt] at hju;simp only[Qt,hh];rw[←hju,Kz or];rfl
   have aAe:=run_append_grow (P:=P) K.w t ty e i z ht hi hz ⟨K.mu n,0,none⟩ xs.length cap _ hol holds ady ys.length aDx _ hnl aCL or or (growslice_fits or hb);have hge:=grownCap_ge K.w (xs.length+ys.length) cap e;obtain⟨c1,c2,c3⟩:=xf (k:=k) (xs:=xs) (ys:=ys) (f:=fun j=>c.getD j Kj) (g:=g) (z:=z.cells) hzs (grownCap K.w (xs.length+ys.length) cap e) hge
   obtain⟨K',q1,q2,q3,q4,q5⟩:=eO (K:=K.drew) (h:=h.del n) (hr.drew.weaken (h.aDP n)) (a:=a) ha aFR _ e (grownCap K.w (xs.length+ys.length) cap e) (by simpa using hge) (by rw[c1])
    (nU (f:=fun j=>c.getD j Kj) (g:=g) (fun i hi j hj=>(hv i hi j hj).mono K.le_drew) (fun i hi j hj=>(gv i hi j hj).mono K.le_drew) (c:=fun j=>_) c2 c3)
   refine⟨_,K',?_,K.le_drew.trans q2,q3,by simpa using q4,by simpa using q5⟩;rw[q1];exact aAe
theorem Di(off:Nat)(c0:Array Value)(cs:Array Value):
 (cs.zipIdx.foldl (fun a (c,j)=>a.setIfInBounds (off+j) c) c0).size=c0.size∧
 ∀j,j<c0.size→(cs.zipIdx.foldl (fun a (c,j)=>a.setIfInBounds (off+j) c) c0).getD j Kj=if off≤j∧j<off+cs.size then cs.getD (j-off) Kj else c0.getD j Kj:=by
 have key:∀(cs:List Value) (s:Nat) (c0:Array Value),((cs.zipIdx s).foldl (fun cs (p:Value×Nat)=>cs.setIfInBounds (off+p.2) p.1) c0).size=c0.size∧
  ∀j,j<c0.size→((cs.zipIdx s).foldl (fun cs (p:Value×Nat)=>cs.setIfInBounds (off+p.2) p.1) c0).getD j Kj=if off+s≤j∧j<off+s+cs.length then cs.getD (j-(off+s)) Kj else c0.getD j Kj:=by
  intro cs;induction cs with
  |nil=>intro s c0;exact⟨rfl,fun j hj=>by simp;omega⟩
  |cons c cs ih=>
   intro s c0;obtain⟨i1,i2⟩:=ih (s+1) (c0.setIfInBounds (off+s) c);rw[Wo,Ww];refine⟨by rw[i1];simp,fun j hj=>?_⟩;rw[i2 j (by simpa using hj)];by_cases e:j=off+s
   ·subst e;simp[hj,Ke];intro h1;omega
   by_cases e2:off+(s+1)≤j∧j<off+(s+1)+cs.length
   ·rw[if_pos e2,if_pos (by simp;omega)];have:j-(off+s)=(j-(off+(s+1)))+1:=or;rw[this];simp
   rw[if_neg e2,if_neg (by simp;omega)];simp only[Ke];rw[Qy or]
 have e:cs.zipIdx.foldl (fun a (c,j)=>a.setIfInBounds (off+j) c) c0=(cs.toList.zipIdx 0).foldl (fun cs (p:Value×Nat)=>cs.setIfInBounds (off+p.2) p.1) c0:=by
  rw[←Array.foldl_toList,Array.toList_zipIdx]
 obtain⟨k1,k2⟩:=key cs.toList 0 c0;refine⟨by rw[e,k1],fun j hj=>?_⟩;rw[e,k2 j hj];simp[Ke,Kc]
theorem qp(k:Nat)(place:Nat→Option (Nat×Nat))(hp:∀i,place i=some (i*k,k)):∀(cvs:List Value) (s:Nat) (c0:Array Value),(∀cv∈cvs,cv.cells.size=k)→(s+cvs.length)*k≤c0.size→
 ∃c,WC place c0 ((cvs.zipIdx s).map fun p=>(p.2,p.1))=some c∧c.size=c0.size∧(∀j,j<s*k→c.getD j Kj=c0.getD j Kj)∧
  ∀i,i<cvs.length→∀j,j<k→c.getD ((s+i)*k+j) Kj=(cvs.getD i Kj).cells.getD j Kj
 | [],s,c0,_,_=>⟨c0,rfl,rfl,fun _ _=>rfl,fun i hi=>absurd hi Zm⟩
 |cv::cvs,s,c0,hc,hs=>by
  have h0:=hc cv Zm;simp only[List.length_cons] at hs;have hs1:s*k+k≤c0.size:=by
   have:(s+1)*k≤(s+(cvs.length+1))*k:=Kx _ or;rw[Ku,QT] at this;omega
  obtain⟨f1,f2⟩:=Di (s*k) c0 cv.cells;generalize hc1:cv.cells.zipIdx.foldl (fun a (c,j)=>a.setIfInBounds (s*k+j) c) c0=c1 at f1 f2;obtain⟨c,g1,g2,g3,g4⟩:=qp k place hp cvs (s+1) c1 (fun x hx=>hc x (by simp[hx])) (by rw[f1,show s+1+cvs.length=s+(cvs.length+1) by omega];exact hs);refine⟨c,?_,by rw[g2,f1],?_,?_⟩
  ·rw[Wo,WA,WC];simp only[hp,h0];rw[if_neg (by simp;omega),hc1];exact g1
  ·intro j hj;rw[g3 j (by rw[Ku];omega),f2 j or,if_neg or]
  intro i hi j hj;cases i with
  |zero=>
   rw[QH,g3 _ (by rw[Ku];omega),f2 _ or,if_pos or];simp
  |succ i=>
   have:=g4 i (by simpa using hi) j hj;have e:s+1+i=s+(i+1):=or;rw[e] at this;simpa using this
theorem jz{P:Program}{K:Ker}{h:Hp}(hr:Rel K h){a:Nat}(ha:¬K.live a){k:Sh}{t e:TypeId}{i:TypeInfo}{z:Value}(ht:P.underlying t=some (.slice e))(hi:P.info? e=some i)(hz:i.zero=some z)
 (hsz:i.size=k.size) {vs:List V} {cvs:List Value} (hl:vs.length=cvs.length) (hv:∀i,i<vs.length→VR K (vs.getD i Ka) (cvs.getD i Kj)) (hf:∀v∈vs,v.fits k=true) (aCS:cvs.length*k.size≤16777216):
 ∃cv K',(KS t cvs.length ((cvs.zipIdx 0).map fun p=>(p.2,p.1)).toArray).run P K.w= .ok cv K'.w∧K.le K'∧(∀n,K'.live n→K.live n∨n=a)∧VR K' (.sl k (.tok a) vs) cv∧Rel K' (h.set a .tip):=by
 have aAm:∀i,i<vs.length→vs.getD i Ka∈vs:=fun i hi=>by
  rw[Kc,Km hi];exact KU _
 have hcs:∀cv∈cvs,cv.cells.size=k.size:=by
  intro cv hcv;obtain⟨j,hj,rfl⟩:=Qq hcv;have:=(hv j or).cells (hf _ (aAm j or));rw[Kc (l:=cvs),Km hj] at this;exact this.2.1
 obtain⟨zs,aPL,aPK⟩:∃zs:Array Value,(cvs.length*k.size=0→zs=#[])∧(¬cvs.length*k.size=0→zs=z.cells):=by
  by_cases e0:cvs.length*k.size=0
  ·exact⟨#[],fun _=>rfl,fun h=>absurd e0 h⟩
  exact⟨z.cells,fun h=>absurd h e0,fun _=>rfl⟩
 obtain⟨c,g1,g2,g3,g4⟩:=qp k.size (fun i=>some (i*k.size,k.size)) (fun _=>rfl) cvs 0 ((Wp (cvs.length*k.size)).map (fun x=>zs[x % zs.size]!)) hcs Zm;obtain⟨K',q1,q2,q3,q4,q5⟩:=kX hr ha hf c e cvs.length or (by rw[g2];simp) (fun i hi j hj=>by
  have h1:=(hv i hi).cells (hf _ (aAm i hi));have h2:=g4 i or j hj;rw[Qa] at h2;rw[h2];exact h1.2.2.1 j hj)
 refine⟨_,K',?_,q2,q3,q4,q5⟩;rw[q1];have hgt:¬(cvs.length*i.size>2 ^ 24):=by rw[hsz];omega
 rw[hl];simp only[hsz] at hgt;have aA6:(sizeOf e).run P K.w= .ok k.size K.w:=by simp[sizeOf,typeInfo,hi,hsz]
 by_cases e0:cvs.length*k.size=0
 ·rw[aPL e0] at g1;simp only[KS,Kv,run_underlying ht,Ks,aA6,if_neg hgt,KE,if_pos e0,g1];rfl
 rw[aPK e0] at g1;have hzv:(zeroValue e).run P K.w= .ok z K.w:=by simp[zeroValue,typeInfo,hi,hz]
 simp only[KS,Kv,run_underlying ht,Ks,aA6,if_neg hgt,KE,if_neg e0,hzv,g1];rfl
def bZ(t:Sh)(o:Nat)(e v:V):V:=
 match t,e with
 | .leaf, .agg cs=> .agg (cs.set o v)
 | .leaf,_=>v
 | .agg m, .agg cs=>if o=0∧cs.length=m then v else .agg (cs.take o++v.cells++cs.drop (o+m))
 | .agg _,e=>e
theorem ag{k t:Sh}{o:Nat}{e v:V}(hp:cA k t o)(hf:e.fits k=true)(hv:v.fits t=true):(bZ t o e v).fits k=true∧o+t.size≤k.size∧
 ∀j,j<k.size→(bZ t o e v).cell j=if o≤j∧j<o+t.size then v.cell (j-o) else e.cell j:=by
 cases k with
 |leaf=>
  cases t with
  |leaf=>
   simp only[cA] at hp;subst hp;have e1:bZ .leaf 0 e v=v:=by
    cases e<;>first|rfl|(simp[Kh,KB] at hf)
   refine⟨by rw[e1];exact hv,by simp[Sh.size],?_⟩;intro j hj;have:j=0:=by simp[Sh.size] at hj;exact hj
   subst this;rw[e1,if_pos (by simp[Sh.size])]
  |agg m=>exact hp.elim
 |agg n=>
  cases e with
  |agg cs=>
   simp only[Kh,Ky,decide_eq_true_eq,KV] at hf;obtain⟨h1,h2⟩:=hf;cases t with
   |leaf=>
    simp only[cA] at hp;simp only[Kh] at hv;have hvc:v.cells=[v]:=by cases v<;>first|rfl|(simp[KB] at hv)
    refine⟨?_,by simp[Sh.size];omega,?_⟩
    ·simp only[bZ,Kh,Ky,decide_eq_true_eq,KV,QR];refine⟨h1,fun x hx=>?_⟩;rcases QL hx with hx|rfl
     ·exact h2 x hx
     exact hv
    intro j hj;show(cs.set o v).getD j Ka=_;by_cases e:o=j
    ·subst e;rw[if_pos (by simp[Sh.size])];simp only[KA,hvc,Nat.sub_self,Kc];rw[Qg or];rfl
    rw[if_neg (by simp[Sh.size];omega)];simp only[KA,KM,Kc];rw[Qp e]
   |agg m=>
    simp only[cA] at hp;cases v with
    |agg us=>
     simp only[Kh,Ky,decide_eq_true_eq,KV] at hv;obtain⟨g1,g2⟩:=hv;unfold bZ;by_cases hc:o=0∧cs.length=m
     ·simp only[if_pos hc];refine⟨?_,by simp[Sh.size];omega,fun j hj=>?_⟩
      ·simp only[Kh,Ky,decide_eq_true_eq,KV];exact⟨or,g2⟩
      have hj':j<n:=hj;have hsz:(Sh.agg m).size=m:=rfl;rw[if_pos (by rw[hsz];omega)];have:j-o=j:=or;rw[this]
     simp only[if_neg hc];refine⟨?_,by simp[Sh.size];omega,?_⟩
     ·simp only[Kh,KM,Ky,decide_eq_true_eq,KV];refine⟨by simp;omega,fun x hx=>?_⟩;rcases KO.1 hx with hx|hx
      ·rcases KO.1 hx with hx|hx
       ·exact h2 x (Qo hx)
       exact g2 x hx
      exact h2 x (QD hx)
     intro j hj;have hj:j<n:=hj;have hsz:(Sh.agg m).size=m:=rfl;rw[hsz];show(cs.take o++us++cs.drop (o+m)).getD j Ka=_;simp only[KA,KM,Kc,KL];by_cases e1:o≤j∧j<o+m
     ·rw[if_pos e1,Ko (by simp;omega),Ki (by simp;omega)];have:j-(cs.take o).length=j-o:=by simp;omega
      rw[this]
     rw[if_neg e1];by_cases e2:j<o
     ·rw[Ki (by simp;omega),KD,if_pos e2]
     rw[Ko (by simp;omega),Ko (by simp;omega),Qf];congr 2;simp;omega
    |_=>simp[Kh] at hv
  |_=>simp[Kh] at hf
theorem x8{K:Ker}{t:Sh}{v:V}{cv:Value}(r:VR K v cv)(hf:v.fits t=true):cv.cells.toList.length=t.size∧∀x∈cv.cells.toList,x.oneCell'=true:=by
 obtain⟨c1,c2,c3,c4⟩:=r.cells hf;refine⟨by simpa using c2,fun x hx=>?_⟩;obtain⟨j,hj,rfl⟩:=Qq hx;have hj':j<t.size:=by rw[←c2];simpa using hj
 have:=c3 j hj';rw[Ke,Kz or] at this;exact this.aA5 (c4 j hj')
theorem pk{P:Program}{K:Ker}{h:Hp}(hr:Rel K h){t:TypeId}{s:Sh}(hs:cK P t=some s){n:Nat}{k:Sh}{i o:Nat}{es:List V}(hn:h n=some (.arr k es))(hi:i<es.length)(hp:cA k s o){v:V}{cv:Value}(hv:VR K v cv)(hf:v.fits s=true):
 ∃K',(Wv t (.pointer (some ⟨K.mu n,i*k.size+o,none⟩)) cv).run P K.w= .ok () K'.w∧K.le K'∧(∀m,K'.live m→K.live m)∧Rel K' (h.set n (.arr k (es.set i (bZ s o (es.getD i Ka) v)))):=by
 obtain⟨cl,co⟩:=x8 hv hf;have hbr:=hr.blk n _ hn;cases hbr with
 |arr _ _ c T hh hsz himm hfit hvs=>
  have aAm:es.getD i Ka∈es:=by
   rw[Kc,Km hi];exact KU _
  obtain⟨p1,p2,p3⟩:=ag hp (hfit _ aAm) hf;have aCD:i*k.size+k.size≤es.length*k.size:=by
   have:(i+1)*k.size≤es.length*k.size:=Kx _ hi;rw[Ku,QT] at this;exact this
  have hst:=run_storeCells_at P (K.mu n) (i*k.size+o) T cv.cells.toList 0 c K.w hh (by rw[cl];omega) co;simp only[QH,cl] at hst;generalize hc':(c.toList.take (i*k.size+o)++cv.cells.toList++c.toList.drop (i*k.size+o+s.size)).toArray=c' at hst;have hcsz:c'.size=c.size:=by rw[←hc'];simp only[Qu,KK,Wq,Wr,QZ,cl];omega
  have hget:∀j,j<c.size→c'.getD j Kj=if i*k.size+o≤j∧j<i*k.size+o+s.size then cv.cells.getD (j-(i*k.size+o)) Kj else c.getD j Kj:=by
   intro j hj;rw[←hc'];simp only[Ke,KJ,KL];by_cases e1:i*k.size+o≤j∧j<i*k.size+o+s.size
   ·rw[if_pos e1,Ko (by simp;omega),Ki (by rw[cl];simp;omega)];have:j-(c.toList.take (i*k.size+o)).length=j-(i*k.size+o):=by simp;omega
    rw[this];simp
   rw[if_neg e1];by_cases e2:j<i*k.size+o
   ·rw[Ki (by simp;omega),KD,if_pos e2];simp
   rw[Ko (by simp;omega),Ko (by rw[cl];simp;omega),Qf];have:i*k.size+o+s.size+(j-(c.toList.take (i*k.size+o)).length-cv.cells.toList.length)=j:=by rw[cl];simp;omega
   rw[this];simp
  have hle:=K.le_row (K.mu n) c' c T hh hcsz (hr.base n _ hn) (fun q hq=>by rw[himm] at hq;omega);refine⟨K.row (K.mu n) c',?_,hle,fun m hm=>hm,?_⟩
  ·have aFF:=eN hs K.w;simp only[Wv,Instr.sureAddr,storeVar,Kv,KE,Ks,aFF];have:cv.cells.size=s.size:=by simpa using cl
   rw[if_neg (by rw[this];simp)];exact hst
  refine hr.row hn c' c T hh hcsz (fun q hq=>by rw[himm] at hq;omega) ?_;refine .arr k _ c' T ?_ (by rw[QR,hcsz];exact hsz) himm ?_ ?_
  ·show(K.w.setRow (K.mu n) c').heap[K.mu n]?=_;exact setRow_heap K.w (K.mu n) c c' T (0,0) hh
  ·intro e he;rcases QL he with he|rfl
   ·exact hfit e he
   exact p1
  intro i' hi' j hj;rw[QR] at hi';have aD6:=cL hj hi';rw[hget _ or];obtain⟨d1,d2,d3,d4⟩:=hv.cells hf;by_cases e:i=i'
  ·subst e;have e1:(es.set i (bZ s o (es.getD i Ka) v)).getD i Ka=bZ s o (es.getD i Ka) v:=by
    rw[Kc (l:=es.set _ _),Qg hi];rfl
   rw[e1,p3 j hj];by_cases e2:o≤j∧j<o+s.size
   ·rw[if_pos e2,if_pos or];have:i*k.size+j-(i*k.size+o)=j-o:=or;rw[this];exact(d3 (j-o) or).mono hle
   rw[if_neg e2,if_neg or];exact(hvs i hi j hj).mono hle
  have e1:(es.set i (bZ s o (es.getD i Ka) v)).getD i' Ka=es.getD i' Ka:=by
   rw[Kc (l:=es.set _ _),Qp e,Kc]
  rw[e1,if_neg]
  ·exact(hvs i' hi' j hj).mono hle
  intro hc;rcases Wg i i' with hlt|hge
  ·have:(i+1)*k.size≤i'*k.size:=Kx _ hlt;rw[Ku,QT] at this;omega
  have:(i'+1)*k.size≤i*k.size:=Kx _ or;rw[Ku,QT] at this;omega
theorem pc{zs:Array Value}{n ks:Nat}(hz:zs.size=ks){i j:Nat}(hj:j<ks)(hi:i*ks+j<n):((Wp n).map fun q=>zs[q % zs.size]!).getD (i*ks+j) Kj=zs.getD j Kj:=by
 subst hz;have e:(i*zs.size+j)% zs.size=j:=by rw[WF,Nat.add_mul_mod_self_right,Nat.mod_eq_of_lt hj]
 have h1:(zs[j]! :Value)=zs[j]:=by simp[hj]
 simp only[Ke];rw[Array.getElem?_map,Array.getElem?_range,if_pos hi];simp only[Qh,KW,e,h1];rw[Kz hj];rfl
theorem g7{n i:Nat}{z:V}(h:i<n):(Kw n z).getD i Ka=z:=by
 simp[Kc,QQ,h]
theorem wY{k:Sh}{n:Nat}{z:V}(h:z.fits k=true):∀e∈Kw n z,e.fits k=true:=fun e he=>by
 rw[(List.mem_replicate.1 he).2];exact h
section
variable{P:Program}{K:Ker}{h:Hp}{a:Nat}{k:Sh}{t e:TypeId}{i:TypeInfo}{z:Value}{zv:V}
theorem Bb(ht:P.underlying t=some (.slice e))(hi:P.info? e=some i)(hz:i.zero=some z)(hsz:i.size=k.size)(aAk:0<i.bytes)(kl kc:IntKind){m:Int}(h0:0≤m)(hb:m.toNat*i.bytes≤140737488355328)(w:World):
 (KX t (.int kl m) (.int kc m)).run P w= .ok (.slice (some ⟨w.heap.size,0,none⟩) m.toNat m.toNat) (w.alloc (.cells (madeCells z.cells (m.toNat*k.size)) e)):=by
 have h1:m.toNat≤m.toNat*i.bytes:=KR _ aAk;have h2:((i.bytes:Int)*m)≤281474976710656:=by
  have e1:m=(m.toNat:Int):=or;rw[e1,←Wx,WG];omega
 rw[←hsz];exact run_make w t e i z ht hi hz kl kc m m h0 (WJ _) h2 or
theorem Bc(ht:P.underlying t=some (.slice e))(hi:P.info? e=some i)(hz:i.zero=some z)(hsz:i.size=k.size)(aAk:0<i.bytes)(kl kc:IntKind){m:Int}(h0:0≤m)(hb:m.toNat*i.bytes≤140737488355328)(w:World):
 (KX t (.int kl 0) (.int kc m)).run P w= .ok (.slice (some ⟨w.heap.size,0,none⟩) 0 m.toNat) (w.alloc (.cells (madeCells z.cells (m.toNat*k.size)) e)):=by
 have h1:m.toNat≤m.toNat*i.bytes:=KR _ aAk;have h2:((i.bytes:Int)*m)≤281474976710656:=by
  have e1:m=(m.toNat:Int):=or;rw[e1,←Wx,WG];omega
 rw[←hsz];exact run_make w t e i z ht hi hz kl kc 0 m (WJ _) h0 h2 or
theorem sS(zs:Array Value)(n:Nat):(madeCells zs n).size=n:=by simp[madeCells]
theorem Bd{zs:Array Value}{n ks:Nat}(hz:zs.size=ks){i j:Nat}(hj:j<ks)(hi:i*ks+j<n):(madeCells zs n).getD (i*ks+j) Kj=zs.getD j Kj:=pc hz hj hi
theorem ew(hr:Rel K h)(ha:¬K.live a)(ht:P.underlying t=some (.slice e))(hi:P.info? e=some i)(hz:i.zero=some z)(hsz:i.size=k.size)(aAk:0<i.bytes)(hv:VR K zv z)(hf:zv.fits k=true)(kl kc:IntKind){m:Int}(h0:0≤m)(hb:m.toNat*i.bytes≤140737488355328):
 ∃cv K',(KX t (.int kl m) (.int kc m)).run P K.w= .ok cv K'.w∧K.le K'∧(∀n,K'.live n→K.live n∨n=a)∧VR K' (.rs a k 0 m.toNat) cv∧Rel K' (h.set a (.arr k (Kw m.toNat zv))):=by
 obtain⟨c1,c2,c3,c4⟩:=hv.cells hf;obtain⟨K',q1,q2,q3,q4,q5⟩:=eO hr ha (k:=k) (es:=Kw m.toNat zv) (wY hf) (madeCells z.cells (m.toNat*k.size)) e m.toNat Zm (by rw[sS]) (fun q hq j hj=>by
  rw[KN] at hq;rw[g7 hq,Bd c2 hj (cL hj hq)];exact c3 j hj)
 rw[KN] at q4;exact⟨_,K',by rw[q1];exact Bb ht hi hz hsz aAk kl kc h0 hb K.w,q2,q3,q4,q5⟩
theorem eu(hr:Rel K h)(ha:¬K.live a)(ht:P.underlying t=some (.slice e))(hi:P.info? e=some i)(hz:i.zero=some z)(hsz:i.size=k.size)(aAk:0<i.bytes)(hv:VR K zv z)(hf:zv.fits k=true)(kl kc:IntKind){m:Int}(h0:0≤m)(hb:m.toNat*i.bytes≤140737488355328):
 ∃cv K',(KX t (.int kl m) (.int kc m)).run P K.w= .ok cv K'.w∧K.le K'∧(∀n,K'.live n→K.live n∨n=a)∧VR K' (.sl k (.tok a) (Kw m.toNat zv)) cv∧Rel K' (h.set a .tip):=by
 obtain⟨c1,c2,c3,c4⟩:=hv.cells hf;obtain⟨K',q1,q2,q3,q4,q5⟩:=kX hr ha (k:=k) (es:=Kw m.toNat zv) (wY hf) (madeCells z.cells (m.toNat*k.size)) e m.toNat Zm (by rw[sS];exact KF _) (fun q hq j hj=>by
  rw[KN] at hq;rw[g7 hq,Bd c2 hj (cL hj hq)];exact c3 j hj)
 rw[KN] at q4;exact⟨_,K',by rw[q1];exact Bb ht hi hz hsz aAk kl kc h0 hb K.w,q2,q3,q4,q5⟩
def mkL(m:Nat):V→List V
 | .top=>[]
 |z=>Kw m z
def mkN(m:Nat):V→Nat
 | .top=>0
 |_=>m
theorem Ho{z:V}(h:z≠ .top)(m:Nat):mkL m z=Kw m z:=by cases z<;>first|rfl|exact absurd rfl h
theorem Hn{z:V}(h:z≠ .top)(m:Nat):mkN m z=m:=by cases z<;>first|rfl|exact absurd rfl h
theorem Ev{k:Sh}{z:V}(h:z.fits k=true):z≠ .top:=by rintro rfl;cases k<;>cases h
theorem fa(hr:Rel K h)(ha:¬K.live a)(ht:P.underlying t=some (.slice e))(hi:P.info? e=some i)(hz:i.zero=some z)(hsz:i.size=k.size)(aAk:0<i.bytes)(hv:VR K zv z)(hf:zv.fits k=true)(kl kc:IntKind){m:Int}(h0:0≤m)(hb:m.toNat*i.bytes≤140737488355328):
 ∃cv K',(KX t (.int kl 0) (.int kc m)).run P K.w= .ok cv K'.w∧K.le K'∧(∀n,K'.live n→K.live n∨n=a)∧VR K' (.rs a k 0 0) cv∧Rel K' (h.set a (.arr k [])):=by
 obtain⟨K',q1,q2,q3,q4,q5⟩:=eO hr ha (k:=k) (es:=[]) (fun e he=>by cases he) (madeCells z.cells (m.toNat*k.size)) e m.toNat Zm (by rw[sS]) (fun q hq j hj=>by cases hq);exact⟨_,K',by rw[q1];exact Bc ht hi hz hsz aAk kl kc h0 hb K.w,q2,q3,q4,q5⟩
theorem ez(hr:Rel K h)(ha:¬K.live a)(ht:P.underlying t=some (.slice e))(hi:P.info? e=some i)(hz:i.zero=some z)(hsz:i.size=k.size)(aAk:0<i.bytes)(hv:VR K zv z)(hf:zv.fits k=true)(kl kc:IntKind){m:Int}(h0:0≤m)(hb:m.toNat*i.bytes≤140737488355328):
 ∃cv K',(KX t (.int kl 0) (.int kc m)).run P K.w= .ok cv K'.w∧K.le K'∧(∀n,K'.live n→K.live n∨n=a)∧VR K' (.sl k (.tok a) []) cv∧Rel K' (h.set a .tip):=by
 obtain⟨K',q1,q2,q3,q4,q5⟩:=kX hr ha (k:=k) (es:=[]) (fun e he=>by cases he) (madeCells z.cells (m.toNat*k.size)) e m.toNat Zm (by rw[sS];exact KF _) (fun q hq j hj=>by cases hq);exact⟨_,K',by rw[q1];exact Bc ht hi hz hsz aAk kl kc h0 hb K.w,q2,q3,q4,q5⟩
theorem xy{tn:TypeId}{kn:IntKind}(hr:Rel K h)(ha:¬K.live a)(ht:P.underlying t=some (.slice e))(htn:P.underlying tn=some (.int kn))(hi:P.info? e=some i)(hz:i.zero=some z)(hsz:i.size=k.size)(hks:0<k.size)(aAk:0<i.bytes)(hv:VR K zv z)(hf:zv.fits k=true)(ty:TypeId)(kl:IntKind){m:Int}(h0:0<m)(hb:m.toNat*i.bytes≤140737488355328):
 ∃cv K',(KI #[t,tn] ty #[.slice none 0 0, .int kl m]).run P K.w= .ok cv K'.w∧K.le K'∧(∀n,K'.live n→K.live n∨n=a)∧VR K' (.rs a k 0 m.toNat) cv∧Rel K' (h.set a (.arr k (Kw m.toNat zv))):=by
 obtain⟨c1,c2,c3,c4⟩:=hv.cells hf;have h1:m.toNat≤m.toNat*i.bytes:=KR _ aAk;have e1:(m.toNat:Int)=m:=or;have aAe:=Lib.run_append_nil_zeros (P:=P) K.w t tn ty e i z kl kn ht htn hi hz m.toNat or or or or;rw[e1] at aAe;have hge:m.toNat≤grownCap K.w m.toNat 0 e:=by have:=grownCap_ge K.w m.toNat 0 e;simpa using this
 have aFF:(Kp z.cells m.toNat++Kp z.cells (grownCap K.w m.toNat 0 e-m.toNat)).size=grownCap K.w m.toNat 0 e*k.size:=by
  rw[QK,size_zeroCells,size_zeroCells,c2,←Ku];congr 1;omega
 obtain⟨K',q1,q2,q3,q4,q5⟩:=eO (K:=K.drew) (h:=h) hr.drew (a:=a) ha (k:=k) (es:=Kw m.toNat zv) (wY hf) (Kp z.cells m.toNat++Kp z.cells (grownCap K.w m.toNat 0 e-m.toNat)) e (grownCap K.w m.toNat 0 e) (by simpa using hge) (by rw[aFF]) (fun q hq j hj=>by
  rw[KN] at hq;have hlt:=cL hj hq;rw[g7 hq,Ke,KG (by rw[size_zeroCells,c2];exact hlt),←Ke];unfold Kp;rw[pc c2 hj (by rw[c2];exact hlt)];exact(c3 j hj).mono K.le_drew)
 rw[KN] at q4;refine⟨_,K',?_,K.le_drew.trans q2,q3,q4,q5⟩;rw[q1];exact aAe
theorem xI(hr:Rel K h){n off ln:Nat}{es:List V}(hn:h n=some (.arr k es))(hle:off+ln≤es.length){cx:Value}(hx:VR K (.rs n k off ln) cx)(ht:P.underlying t=some (.slice e))(hi:P.info? e=some i)(hz:i.zero=some z)(hv:VR K zv z)(hf:zv.fits k=true)(ty:TypeId):
 ∃K',(Qk #[t] ty #[cx]).run P K.w= .ok (.tuple #[]) K'.w∧K.le K'∧(∀m,K'.live m→K.live m)∧Rel K' (h.set n (.arr k (es.take off++Kw ln zv++es.drop (off+ln)))):=by
 obtain⟨v1,v2,v3,v4⟩:=hv.cells hf;cases hx with
 |rs _ _ _ _ cap hl hcap hm=>
  by_cases hz0:ln=0
  ·subst hz0;refine⟨K,by simp[Qk,run_underlying ht], .refl K,fun m hm=>hm,?_⟩;have e1:es.take off++Kw 0 zv++es.drop (off+0)=es:=Zm;have e2:h.set n (.arr k es)=h:=by
    funext x;unfold Kb;split
    ·rename_i e;subst e;exact hn.symm
    rfl
   rw[e1,e2];exact hr
  have hbr:=hr.blk n _ hn;cases hbr with
  |arr _ _ c T hh hcs himm hfit hvs=>
   have hzl:(Kp z.cells ln).toList.length=ln*k.size:=by simp[size_zeroCells,v2]
   have aCD:off*k.size+ln*k.size≤es.length*k.size:=by rw[←Ku];exact Kx _ hle
   have hzc:∀q j,q<ln→j<k.size→(Kp z.cells ln).getD (q*k.size+j) Kj=z.cells.getD j Kj:=fun q j hq hj=>by
    unfold Kp;exact pc v2 hj (by rw[v2];exact cL hj hq)
   have hst:=run_storeCells_at P (K.mu n) (off*k.size) T (Kp z.cells ln).toList 0 c K.w hh (by rw[hzl];omega) (by
    intro u hu;obtain⟨q,hq,rfl⟩:=Qq hu;rw[hzl] at hq;obtain⟨d1,d2,d3⟩:=tA hq;have:=hzc _ _ d1 d2;rw[d3,Ke,Kz (by rw[size_zeroCells,v2];exact hq)] at this;have h2:(Kp z.cells ln).toList[q]=z.cells.getD (q % k.size) Kj:=by simpa using this
    rw[h2];exact(v3 _ d2).aA5 (v4 _ d2))
   simp only[QH,hzl] at hst;generalize hc':(c.toList.take (off*k.size)++(Kp z.cells ln).toList++c.toList.drop (off*k.size+ln*k.size)).toArray=c' at hst;have hcsz:c'.size=c.size:=by rw[←hc'];simp only[Qu,KK,Wq,Wr,QZ,hzl];omega
   have hle1:=K.le_row (K.mu n) c' c T hh hcsz (hr.base n _ hn) (fun o ho=>by rw[himm] at ho;omega);have hlen:(es.take off++Kw ln zv++es.drop (off+ln)).length=es.length:=by simp;omega
   refine⟨K.row (K.mu n) c',?_,hle1,fun m hm=>hm,?_⟩
   ·have hzv:(zeroValue e).run P K.w= .ok z K.w:=by simp[zeroValue,typeInfo,hi,hz]
    obtain⟨l',rfl⟩:∃l',ln=l'+1:=⟨ln-1,or⟩;simp only[Qk,Kv,run_underlying ht,Ks,KJ,List.getElem?_cons_zero,hzv,hst,KE];rfl
   refine hr.row hn c' c T hh hcsz (fun o ho=>by rw[himm] at ho;omega) (.arr k _ c' T ?_ (by rw[hlen,hcsz];exact hcs) himm ?_ ?_)
   ·show(K.w.setRow (K.mu n) c').heap[K.mu n]?=_;exact setRow_heap K.w (K.mu n) c c' T (0,0) hh
   ·intro x hx;rcases KO.1 hx with hx|hx
    ·rcases KO.1 hx with hx|hx
     ·exact hfit x (Qo hx)
     exact wY hf x hx
    exact hfit x (QD hx)
   intro q hq j hj;rw[hlen] at hq;have aD6:=cL hj hq;have hget:c'[q*k.size+j]?=if q<off then c[q*k.size+j]? else if q<off+ln then (Kp z.cells ln)[(q-off)*k.size+j]? else c[q*k.size+j]?:=by
    rw[←hc'];simp only[KJ,KL];by_cases e1:q<off
    ·have h1:=cL hj e1;rw[if_pos e1,Ki (by simp;omega),KD,if_pos h1];simp
    rw[if_neg e1];have h1:off*k.size≤q*k.size:=Kx _ or;have hsub:q*k.size-off*k.size=(q-off)*k.size:=(Nat.sub_mul _ _ _).symm;have htk:(c.toList.take (off*k.size)).length=off*k.size:=by simp;omega
    rw[Ko (by rw[htk];omega),htk];by_cases e2:q<off+ln
    ·have h2:=cL (k:=k.size) (i:=q-off) (n:=ln) hj or;rw[if_pos e2,Ki (by rw[hzl];omega)];have:q*k.size+j-off*k.size=(q-off)*k.size+j:=or;rw[this];simp
    have h2:(off+ln)*k.size≤q*k.size:=Kx _ or;rw[Ku] at h2;rw[if_neg e2,Ko (by rw[hzl];omega),hzl,Qf];have:off*k.size+ln*k.size+(q*k.size+j-off*k.size-ln*k.size)=q*k.size+j:=or;rw[this];simp
   have hes:(es.take off++Kw ln zv++es.drop (off+ln)).getD q Ka=if q<off then es.getD q Ka else if q<off+ln then zv else es.getD q Ka:=by
    simp only[Kc,KL];have htk:(es.take off).length=off:=by simp;omega
    by_cases e1:q<off
    ·rw[if_pos e1,Ki (by rw[htk];exact e1),KD,if_pos e1]
    rw[if_neg e1,Ko (by rw[htk];omega),htk];by_cases e2:q<off+ln
    ·rw[if_pos e2,Ki (by simp;omega)];rw[QQ,if_pos or];rfl
    rw[if_neg e2,Ko (by simp;omega),Qf];have:off+ln+(q-off-(Kw ln zv).length)=q:=by simp;omega
    rw[this]
   rw[hes,Ke,hget];by_cases e1:q<off
   ·rw[if_pos e1,if_pos e1,←Ke];exact(hvs q hq j hj).mono hle1
   rw[if_neg e1,if_neg e1];by_cases e2:q<off+ln
   ·rw[if_pos e2,if_pos e2,←Ke,hzc _ _ or hj];exact(v3 j hj).mono hle1
   rw[if_neg e2,if_neg e2,←Ke];exact(hvs q hq j hj).mono hle1
end
theorem xJ{P:Program}{K:Ker}{h:Hp}(hr:Rel K h){a:Nat}(ha:¬K.live a){k:Sh}{t e:TypeId}{i:TypeInfo}{z:Value}(ht:P.underlying t=some (.slice e))(hi:P.info? e=some i)(hz:i.zero=some z)
 (hsz:i.size=k.size) {vs:List V} {cvs:List Value} (hl:vs.length=cvs.length) (hv:∀i,i<vs.length→VR K (vs.getD i Ka) (cvs.getD i Kj)) (hf:∀v∈vs,v.fits k=true) (aCS:cvs.length*k.size≤16777216):
 ∃cv K',(KS t cvs.length ((cvs.zipIdx 0).map fun p=>(p.2,p.1)).toArray).run P K.w= .ok cv K'.w∧K.le K'∧(∀n,K'.live n→K.live n∨n=a)∧VR K' (.rs a k 0 vs.length) cv∧Rel K' (h.set a (.arr k vs)):=by
 have aAm:∀i,i<vs.length→vs.getD i Ka∈vs:=fun i hi=>by
  rw[Kc,Km hi];exact KU _
 have hcs:∀cv∈cvs,cv.cells.size=k.size:=by
  intro cv hcv;obtain⟨j,hj,rfl⟩:=Qq hcv;have:=(hv j or).cells (hf _ (aAm j or));rw[Kc (l:=cvs),Km hj] at this;exact this.2.1
 obtain⟨zs,aPL,aPK⟩:∃zs:Array Value,(cvs.length*k.size=0→zs=#[])∧(¬cvs.length*k.size=0→zs=z.cells):=by
  by_cases e0:cvs.length*k.size=0
  ·exact⟨#[],fun _=>rfl,fun h=>absurd e0 h⟩
  exact⟨z.cells,fun h=>absurd h e0,fun _=>rfl⟩
 obtain⟨c,g1,g2,g3,g4⟩:=qp k.size (fun i=>some (i*k.size,k.size)) (fun _=>rfl) cvs 0 ((Wp (cvs.length*k.size)).map (fun x=>zs[x % zs.size]!)) hcs Zm;obtain⟨K',q1,q2,q3,q4,q5⟩:=eO hr ha hf c e cvs.length or (by rw[g2];simp) (fun i hi j hj=>by
  have h1:=(hv i hi).cells (hf _ (aAm i hi));have h2:=g4 i or j hj;rw[Qa] at h2;rw[h2];exact h1.2.2.1 j hj)
 refine⟨_,K',?_,q2,q3,q4,q5⟩;rw[q1];have hgt:¬(cvs.length*i.size>2 ^ 24):=by rw[hsz];omega
 rw[hl];simp only[hsz] at hgt;have aA6:(sizeOf e).run P K.w= .ok k.size K.w:=by simp[sizeOf,typeInfo,hi,hsz]
 by_cases e0:cvs.length*k.size=0
 ·rw[aPL e0] at g1;simp only[KS,Kv,run_underlying ht,Ks,aA6,if_neg hgt,KE,if_pos e0,g1];rfl
 rw[aPK e0] at g1;have hzv:(zeroValue e).run P K.w= .ok z K.w:=by simp[zeroValue,typeInfo,hi,hz]
 simp only[KS,Kv,run_underlying ht,Ks,aA6,if_neg hgt,KE,if_neg e0,hzv,g1];rfl
theorem jS{o:Obj}(h:iL o=true):o.isCells=false:=by cases o<;>first|rfl|(simp[iL] at h)
theorem ub{w:World}{b:Nat}{o o0:Obj}(h0:w.heap[b]?=some o0)(hp0:o0.isCells=false)(hp:o.isCells=false)(b' o':Nat):(w.putObj b o).cell? ⟨b',o',none⟩=w.cell? ⟨b',o',none⟩:=by
 by_cases e:b'=b
 ·subst e;have h1:(w.putObj b' o).heap[b']?=some o:=Qr (KY.1 h0).1;simp only[Qt,h0,h1];cases o<;>cases o0<;>first|rfl|(simp[Obj.isCells] at hp hp0)
 exact gV (KZ e)
theorem qa{w:World}{b:Nat}{o o0:Obj}(h0:w.heap[b]?=some o0)(hp0:o0.isCells=false)(hp:o.isCells=false)(b':Nat):(w.putObj b o).shape? b'=w.shape? b':=by
 by_cases e:b'=b
 ·subst e;have h1:(w.putObj b' o).heap[b']?=some o:=Qr (KY.1 h0).1;simp only[Qi,h0,h1];cases o<;>cases o0<;>first|rfl|(simp[Obj.isCells] at hp hp0)
 exact kW (KZ e)
def Ker.obj(K:Ker)(b:Nat)(o:Obj):Ker:={K with w:=K.w.putObj b o}
theorem Ker.aBe(K:Ker){b:Nat}{o o0:Obj}(h0:K.w.heap[b]?=some o0)(hp0:o0.isCells=false)(hp:o.isCells=false):K.leV (K.obj b o) where
 live _ h:=h
 mu _ _:=rfl
 tp _ _:=rfl
 fro:=rfl
 imm _ _:=KF _
 cell b' o' _ _:=ub h0 hp0 hp b' o'
 shape b' _:=qa h0 hp0 hp b'
 size:=by show _≤(K.w.putObj b o).heap.size;simp
theorem Ker.aEY(K:Ker){b:Nat}{o o0:Obj}(h0:K.w.heap[b]?=some o0)(hp0:o0.isCells=false)(hp:o.isCells=false)(hf:¬K.fro b)(hm:¬gM K.w b):K.le (K.obj b o):=
 have h:=K.aBe h0 hp0 hp
 ⟨h.live,h.mu,h.tp,h.fro,h.imm,h.cell,h.shape,⟨rfl,rfl,rfl,KF _,h.size,fun b' _ hb'=>KZ (fun e=>by subst e;exact hb'.elim hf hm)⟩⟩
theorem nV{w:World}{b:Nat}{o:Obj}(h:w.heap[b]?=some o)(ho:iL o=true):¬gM w b:=fun hm=>by
 unfold gM at hm;rw[h] at hm;injection hm with hm;subst hm;cases ho
theorem gG{P:Program}{w:World}{r:Nat}{o0:Obj}(o:Obj)(hb:w.heap[r]?=some o0)(hp:iL o0=true):(setObj r o).run P w= .ok () (w.putObj r o):=by
 cases o0<;>first|(cases hp;done)|simp[setObj,Sem.run,hb,World.putObj]
theorem Rel.aCz{K:Ker}{h:Hp}(r:Rel K h){n:Nat}{b0 b1:Blk}(hn:h n=some b0){o o0:Obj}(h1:K.w.heap[K.mu n]?=some o0)(h2:iL o0=true)(ho:iL o=true)(hb1:BR (K.obj (K.mu n) o) n b1):
 K.le (K.obj (K.mu n) o)∧Rel (K.obj (K.mu n) o) (h.set n b1):=by
 have hle:=K.aEY h1 (jS h2) (jS ho) (r.base n _ hn) (nV h1 h2);refine⟨hle,?_,?_,?_,?_,r.size.keep hle⟩
 ·intro m b' e;unfold Kb at e;split at e
  ·rename_i hm;subst hm;exact r.lt m _ hn
  exact r.lt m b' e
 ·intro m b' e;unfold Kb at e;split at e
  ·rename_i hm;subst hm;exact r.base m _ hn
  exact r.base m b' e
 ·intro m b' e;unfold Kb at e;split at e
  ·rename_i hm;subst hm;injection e with e;subst e;exact hb1
  rename_i hm;refine(r.blk m b' e).mono hle (r.lt m b' e) ?_ rfl;exact KZ (fun em=>hm (r.inj m n b' _ e hn em))
 intro m m' b1' b2' e1 e2 em;unfold Kb at e1 e2;have g:∀x bb,(if x=n then some b1 else h x)=some bb→∃b',h x=some b':=fun x bb hx=>by
  split at hx
  ·rename_i hm;subst hm;exact⟨_,hn⟩
  exact⟨bb,hx⟩
 obtain⟨c1,d1⟩:=g m b1' e1;obtain⟨c2,d2⟩:=g m' b2' e2;exact r.inj m m' c1 c2 d1 d2 em
theorem MEs.aAl{K K':Ker}(hk:K.leV K'){es:List ME}{ces:List MapEntry}(h:MEs K es ces):MEs K' es ces:=⟨h.1,fun i hi=>⟨(h.2 i hi).1.aAl hk,(h.2 i hi).2.1.aAl hk,(h.2 i hi).2.2⟩⟩
theorem BR.aCG{K:Ker}{n:Nat}{es:List ME}{c:Nat}(r:BR K n (.mp es c)):∃ces:Array MapEntry,K.w.heap[K.mu n]?=some (.map ces c)∧MEs K es ces.toList:=by
 cases r with
 |mp _ _ ces hh hl hv=>exact⟨ces,hh,by simpa using hl,fun i hi=>by simpa [Ke,Kc] using hv i hi⟩
theorem BR.aGm{K:Ker}{n:Nat}{es:List ME}{c:Nat}{ces:Array MapEntry}(hh:K.w.heap[K.mu n]?=some (.map ces c))(h:MEs K es ces.toList):BR K n (.mp es c):=
 .mp es c ces hh (by simpa using h.1) fun i hi=>by simpa [Ke,Kc] using h.2 i hi
theorem MEs.set{K:Ker}{es:List ME}{ces:List MapEntry}(h:MEs K es ces)(j:Nat){e:ME}{c:MapEntry}(h1:VR K e.k c.key)(h2:VR K e.v c.val)(h3:c.born=e.b):MEs K (es.set j e) (ces.set j c):=by
 refine⟨by simpa using h.1,fun i hi=>?_⟩;have hi':i<es.length:=by simpa using hi
 have hc:i<ces.length:=by rw[←h.1];exact hi'
 have:=h.2 i hi';simp only[Kc,List.getElem?_set] at this⊢;by_cases e:j=i
 ·subst e;simp[hi',hc,h1,h2,h3]
 simpa [e] using this
theorem MEs.push{K:Ker}{es:List ME}{ces:List MapEntry}(h:MEs K es ces){e:ME}{c:MapEntry}(h1:VR K e.k c.key)(h2:VR K e.v c.val)(h3:c.born=e.b):MEs K (es++[e]) (ces++[c]):=by
 refine⟨by simp[h.1],fun i hi=>?_⟩;rcases Wg i es.length with hi'|hi'
 ·have hc:i<ces.length:=by rw[←h.1];exact hi'
  have:=h.2 i hi';simpa [Kc,Ki hi',Ki hc] using this
 have:i=es.length:=by simp at hi;omega
 subst this;simp only[Kc,QI];rw[h.1];simp only[QI,KW];exact⟨h1,h2,h3⟩
theorem MEs.erase{K:Ker}{es:List ME}{ces:List MapEntry}(h:MEs K es ces)(j:Nat):MEs K (es.eraseIdx j) (ces.eraseIdx j):=by
 refine⟨by simp[QE,h.1],fun i hi=>?_⟩;simp only[Kc,List.getElem?_eraseIdx];split
 ·have hi':i<es.length:=Nat.lt_of_lt_of_le hi (by rw[QE];split<;>omega);simpa [Kc] using h.2 i hi'
 have hi':i+1<es.length:=by
  rw[QE] at hi;split at hi<;>omega
 simpa [Kc] using h.2 (i+1) hi'
theorem MEs.get{K:Ker}{es:List ME}{ces:List MapEntry}(h:MEs K es ces){e:ME}(he:e∈es):∃c∈ces,VR K e.k c.key∧VR K e.v c.val∧c.born=e.b:=by
 obtain⟨i,hi,rfl⟩:=QW.1 he;have hc:i<ces.length:=by rw[←h.1];exact hi
 have:=h.2 i hi;simp only[Kc,Km hi,Km hc,KW] at this;exact⟨ces[i],KU _,this⟩
theorem MEs.back{K:Ker}{es:List ME}{ces:List MapEntry}(h:MEs K es ces){c:MapEntry}(hc:c∈ces):∃e∈es,VR K e.k c.key∧VR K e.v c.val∧c.born=e.b:=by
 obtain⟨i,hi,rfl⟩:=QW.1 hc;have he:i<es.length:=by rw[h.1];exact hi
 have:=h.2 i he;simp only[Kc,Km hi,Km he,KW] at this;exact⟨es[i],KU _,this⟩
theorem vj{K:Ker}{lk:LK}{x y:V}{a b:Value}(h:iC lk x y=some true)(hx:VR K x a)(hy:VR K y b)(n:Nat):KQ n b a=true:=by
 cases lk<;>cases x<;>cases y<;>simp only[iC,reduceCtorEq] at h
 ·cases hx;cases hy;simp at h;subst h;simp[KQ]
 ·cases hx;cases hy;simp at h;obtain⟨rfl,rfl⟩:=h;simp[KQ]
 cases hx;cases hy;rw[Option.some.injEq,←zD] at h;simp only[KQ];rw[zD] at h⊢;rw[beq_iff_eq] at h⊢;exact h.symm
theorem kp{K:Ker}(n:Nat):∀(ks:List LK) (xs ys:List V) (as bs:List Value),iB ks xs ys=some true→as.length=xs.length→bs.length=ys.length→(∀i,i<xs.length→VR K (xs.getD i Ka) (as.getD i Kj))→(∀i,i<ys.length→VR K (ys.getD i Ka) (bs.getD i Kj))→
 bs.length=as.length∧(bs.zip as).all (fun p=>KQ n p.1 p.2)=true
 | [],xs,ys,as,bs,h,ha,hb,hx,hy=>by
  have hl:=oU _ _ _ _ h;have e1:xs=[]:=KP (by simpa using hl.1);have e2:ys=[]:=KP (by simpa using hl.2);subst e1 e2;have e3:as=[]:=KP (by simpa using ha);have e4:bs=[]:=KP (by simpa using hb);subst e3 e4;simp
 |k::ks,xs,ys,as,bs,h,ha,hb,hx,hy=>by
  have hl:=oU _ _ _ _ h;match xs,ys,as,bs,hl,ha,hb with
  |x::xs,y::ys,a::as,b::bs,hl,ha,hb=>
   rw[sJ] at h;split at h
   ·rename_i p q h1 h2;simp only[Option.some.injEq,Ky] at h;obtain⟨rfl,rfl⟩:=h;have q1:=vj h1 (by simpa using hx 0 Zm) (by simpa using hy 0 Zm) n;obtain⟨q2,q3⟩:=kp n ks xs ys as bs h2 (by simpa using ha) (by simpa using hb) (fun i hi=>by simpa using hx (i+1) (by simpa using hi)) (fun i hi=>by simpa using hy (i+1) (by simpa using hi));exact⟨by simp[q2],by simp[q1,q3]⟩
   cases h
theorem np{P:Program}{K:Ker}(w:World){k:Sh}{ks:List LK}{v u:V}{a b:Value}(hv:VR K v a)(hu:VR K u b)(h:veq (.plain k ks) v u=some true):(QU b a).run P w= .ok a w:=by
 have hb:KQ 10000 b a=true:=by
  simp only[veq] at h;split at h
  ·rename_i hf;simp only[Ky] at hf;obtain⟨c1,c2,c3,_⟩:=hv.cells hf.1;obtain⟨d1,d2,d3,_⟩:=hu.cells hf.2;have key:=fun n=>kp n ks v.cells u.cells a.cells.toList b.cells.toList h (by simp[c1,c2]) (by simp[d1,d2]) (fun i hi=>by simpa [Ke,Kc,KA] using c3 i or) (fun i hi=>by simpa [Ke,Kc,KA] using d3 i or);have ea:=mM hv hf.1;have eb:=mM hu hf.2;cases k with
   |leaf=>
    have hk:=key 10000;simp only[Kh] at hf;have e1:a.cells=#[a]:=by cases hv<;>first|rfl|(simp[KB] at hf)
    have e2:b.cells=#[b]:=by cases hu<;>first|rfl|(simp[KB] at hf)
    rw[e1,e2] at hk;simpa using hk.2
   |agg m=>
    have hk:=key 9999;cases hv with
    |agg cs ccs _ _=>
     cases hu with
     |agg cs' aYj _ _=>
      simp only[Value.cells] at hk;show(aYj.size==ccs.size&&(aYj.toList.zip ccs.toList).all fun(x,y)=>KQ 9999 x y)=true;rw[Ky];exact⟨by simpa using hk.1,by simpa using hk.2⟩
     |_=>simp[Kh] at hf
    |_=>simp[Kh] at hf
  cases h
 simp[QU,hb]
inductive MOp where
 |mk
 |put (kS:Sh) (ks:List LK) (x k v:aK)
 |ent (kS:Sh) (ks:List LK) (z:V) (x k:aK)
 |est (x s v:aK)
 |del (kS:Sh) (ks:List LK) (x k:aK)
 |rng (x:aK)
 |nxt (x:aK)
 |key (x:aK)
 deriving Inhabited
def MOp.sem(sl:List V)(h:Hp)(a:Nat)(R:V→Hp→Prop):MOp→Prop
 | .mk=>R (.map a) (h.set a (.mp [] 0))
 | .put kS ks x k v=>(k.ev sl).fits kS=true∧match x.ev sl with
  | .map n=>match h n with
   |some (.mp es c)=>match bT (.plain kS ks) (k.ev sl) es with
    |some (some j)=>R Ka (h.set n (.mp (es.set j ⟨k.ev sl,v.ev sl,(es.getD j default).b⟩) c))
    |some none=>R Ka (h.set n (.mp (es++[⟨k.ev sl,v.ev sl,c⟩]) (c+1)))
    |none=>False
   |_=>False
  |_=>False
 | .ent kS ks z x k=>(k.ev sl).fits kS=true∧match x.ev sl with
  | .map n=>match h n with
   |some (.mp es c)=>match bT (.plain kS ks) (k.ev sl) es with
    |some (some j)=>R (.tup [(es.getD j default).v, .int .i64 (es.getD j default).b]) (h.set n (.mp (es.set j ⟨k.ev sl,(es.getD j default).v,(es.getD j default).b⟩) c))
    |some none=>R (.tup [z, .int .i64 c]) (h.set n (.mp (es++[⟨k.ev sl,z,c⟩]) (c+1)))
    |none=>False
   |_=>False
  |_=>False
 | .est x s v=>match x.ev sl,s.ev sl with
  | .map n, .int _ b=>match h n with
   |some (.mp es c)=>∃j,es.findIdx? (fun e=>(e.b:Int)==b)=some j∧R Ka (h.set n (.mp (es.set j ⟨(es.getD j default).k,v.ev sl,(es.getD j default).b⟩) c))
   |_=>False
  |_,_=>False
 | .del kS ks x k=>(k.ev sl).fits kS=true∧match x.ev sl with
  | .aAG=>R Ka h
  | .map n=>match h n with
   |some (.mp es c)=>match bT (.plain kS ks) (k.ev sl) es with
    |some (some j)=>R Ka (h.set n (.mp (es.eraseIdx j) c))
    |some none=>R Ka (h.set n (.mp es c))
    |none=>False
   |_=>False
  |_=>False
 | .rng x=>match x.ev sl with
  | .map n=>match h n with
   |some (.mp es c)=>R (.ptr a .leaf 0 0) (h.set a (.mit n c [] c))
   |_=>False
  |_=>False
 | .nxt x=>match x.ev sl with
  | .ptr it .leaf 0 0=>match h it with
   |some (.mit m since seen last)=>match h m with
    |some (.mp es c)=>(∀e∈es,e.b<since)∧since≤last∧(∀e∈es,e.b∉seen→R (.tup [.bool true,e.k,e.v]) (h.set it (.mit m since (seen++[e.b]) c)))∧((∀e∈es,e.b∈seen)→R (.tup [.bool false]) h)
    |_=>False
   |_=>False
  |_=>False
 | .key x=>match x.ev sl with
  | .ptr it .leaf 0 0=>match h it with
   |some (.mit m since seen last)=>match h m with
    |some (.mp es c)=>c=last∧∃b e,seen.getLast?=some b∧es.find? (fun e=>e.b==b)=some e∧R (.tup [e.k,e.v]) h
    |_=>False
   |_=>False
  |_=>False
theorem MOp.aAo{sl:List V}{h:Hp}{a:Nat}{R R':V→Hp→Prop}(hR:∀v h',R v h'→R' v h'){m:MOp}(hs:m.sem sl h a R):m.sem sl h a R':=by
 cases m with
 |mk=>exact hR _ _ hs
 |put kS ks x k v=>
  refine⟨hs.1,?_⟩;have hs:=hs.2;revert hs;split<;>(try split)<;>(try split)<;>first|exact hR _ _|exact id
 |ent kS ks z x k=>
  refine⟨hs.1,?_⟩;have hs:=hs.2;revert hs;split<;>(try split)<;>(try split)<;>first|exact hR _ _|exact id
 |est x s v=>
  simp only[MOp.sem] at hs⊢;revert hs;split<;>(try split)<;>first|exact id|exact fun⟨j,h1,h2⟩=>⟨j,h1,hR _ _ h2⟩
 |del kS ks x k=>
  refine⟨hs.1,?_⟩;have hs:=hs.2;revert hs;split<;>(try split)<;>(try split)<;>first|exact hR _ _|exact id
 |rng x=>
  simp only[MOp.sem] at hs⊢;revert hs;split<;>(try split)<;>first|exact hR _ _|exact id
 |nxt x=>
  simp only[MOp.sem] at hs⊢;revert hs;split<;>(try split)<;>(try split)<;>first|exact id|exact fun⟨h1,h2,h3,h4⟩=>⟨h1,h2,fun e he hs=>hR _ _ (h3 e he hs),fun he=>hR _ _ (h4 he)⟩
 |key x=>
  simp only[MOp.sem] at hs⊢;revert hs;split<;>(try split)<;>(try split)<;>first|exact id|exact fun⟨h1,b,e,h2,h3,h4⟩=>⟨h1,b,e,h2,h3,hR _ _ h4⟩
def zt(P:Program)(o:Oper):Option MOp:=
 match o.op with
 | .makeMap t none=>match P.underlying t with
  |some (.map _ _)=>some .mk
  |_=>none
 | .mapUpdate t m k v=>match P.underlying t with
  |some (.map kt et)=>(cK P kt).bind fun kS=>(bD P 10 kt).bind fun ks=>(aO P t m).bind fun x=>(aO P kt k).bind fun k=>(aO P et v).map fun v=> .put kS ks x k v
  |_=>none
 | .mapEntry t m k=>match P.underlying t with
  |some (.map kt et)=>(cK P kt).bind fun kS=>(bD P 10 kt).bind fun ks=>((P.info? et).bind (·.zero)).bind fun z=>(bc P et z).bind fun zv=>(aO P t m).bind fun x=>(aO P kt k).map fun k=> .ent kS ks zv x k
  |_=>none
 | .entryStore t m s v=>match P.underlying t with
  |some (.map _ et)=>(aO P t m).bind fun x=>(aO P 0 s).bind fun s=>(aO P et v).map fun v=> .est x s v
  |_=>none
 | .call {callee:= .builtin .delete,args:=args,argTypes:=ts}=>match args.toList,ts.toList with
  | [m,k],[t,_]=>match P.underlying t with
   |some (.map kt _)=>(cK P kt).bind fun kS=>(bD P 10 kt).bind fun ks=>(aO P t m).bind fun x=>(aO P kt k).map fun k=> .del kS ks x k
   |_=>none
  |_,_=>none
 | .range t x=>match P.underlying t with
  |some (.map _ _)=>(aO P t x).map .rng
  |_=>none
 | .next x false=>(aO P 0 x).map .nxt
 | .entry x=>(aO P 0 x).map .key
 |_=>none
theorem uT{P:Program}{w:World}{r:Nat}{o:Obj}(hb:w.heap[r]?=some o)(hp:iL o=true):(getObj r).run P w= .ok o w:=by
 cases o<;>first|(cases hp;done)|simp[getObj,Sem.run,hb]
theorem d5{w:World}{b:Nat}{o0:Obj}(h0:w.heap[b]?=some o0)(o:Obj):(w.putObj b o).heap[b]?=some o:=Qr (KY.1 h0).1
theorem oH{es:Array MapEntry}{j:Nat}(hj:j<es.size)(f:MapEntry→MapEntry):(es.modify j f).toList=es.toList.set j (f (es.toList.getD j default)):=by
 apply Ws
 ·simp
 intro i h1 h2;have hi:i<es.size:=by simpa using h1
 simp only[Array.getElem_toList,Array.getElem_modify,List.getElem_set];by_cases e:j=i
 ·subst e;simp[hj]
 simp[e]
theorem xe{P:Program}(w:World)(n:Nat)(hn:0<n):∃i w',(choose (.mapNext n)).run P w= .ok i w'∧i<n∧(w'=w∨w'=w.drew):=by
 rw[run_choose_drew];split
 ·exact⟨0,w,rfl,hn, .inl rfl⟩
 exact⟨_,_,rfl,Nat.mod_lt _ hn, .inr rfl⟩
theorem Rel.aEX{K:Ker}{h:Hp}(hr:Rel K h){a:Nat}(ha:¬K.live a){o:Obj}{b:Blk}(hb:BR (K.push a o 0) a b):K.le (K.push a o 0)∧(∀n,(K.push a o 0).live n→K.live n∨n=a)∧Rel (K.push a o 0) (h.set a b):=
 ⟨K.aAu a ha o 0,fun n hn=>hn.symm,hr.set_push ha _ _ hb⟩
section
variable{P:Program}{o:Oper}{act:Act}{K:Ker}{sl:List V}{h:Hp}{a:Nat}{R:V→Hp→Prop}
theorem qC(hr:Rel K h){n:Nat}{es es':List ME}{c c':Nat}(hn:h n=some (.mp es c)){ces ces':Array MapEntry}(hh:K.w.heap[K.mu n]?=some (.map ces c))(hm:MEs K es' ces'.toList){nx:Next}{cv:Value}{v:V}
 (aAe:(execOp act.eval o).run P K.w= .ok nx (K.w.putObj (K.mu n) (.map ces' c'))) (hnx:nx= .value cv∨nx= .skip∧cv=Kj) (hv:VR K v cv) (hR:R v (h.set n (.mp es' c'))):eV P o act K a R:=by
 have aCN:=K.aBe (o:= .map ces' c') hh rfl rfl;have hb:BR (K.obj (K.mu n) (.map ces' c')) n (.mp es' c'):= .aGm (d5 hh _) (hm.aAl aCN);obtain⟨h1,h2⟩:=hr.aCz hn hh rfl rfl hb;exact⟨nx,cv,_,v,_,aAe,hnx,h1,fun n hn=> .inl hn,hv.aAl aCN,h2,hR⟩
theorem Ck{m:MOp}(hl:zt P o=some m)(hs:SlV K sl act)(hr:Rel K h)(aAJ:¬K.live a)(aAB:m.sem sl h a R):eV P o act K a R:=by
 unfold zt at hl;split at hl;case h_1 t hop=>
  split at hl
  ·rename_i kt et hu;injection hl with hl;subst hl;have hmu:(K.push a (.map #[] 0) 0).mu a=K.w.heap.size:=by simp[Kt]
   obtain⟨h1,h2,h3⟩:=hr.aEX aAJ (o:= .map #[] 0) (b:= .mp [] 0) (.aGm (by rw[hmu];exact cT _ _) ⟨rfl,fun i hi=>by simp at hi⟩);have hv:=VR.map (K:=K.push a (.map #[] 0) 0) a (.inl rfl);rw[hmu] at hv;exact⟨_,_,K.push a (.map #[] 0) 0,_,_,by simp[execOp,hop,Instr.makeMap,Kt], .inl rfl,h1,h2,hv,h3,aAB⟩
  simp at hl
 case h_2 t mo ko vo hop=>
  split at hl
  ·rename_i kt et hu;obtain⟨kS,hkS,hl⟩:=Kd.1 hl;obtain⟨ks,hks,hl⟩:=Kd.1 hl;obtain⟨lx,hx,hl⟩:=Kd.1 hl;obtain⟨lk,hk,hl⟩:=Kd.1 hl;obtain⟨lv,hv,rfl⟩:=Kg.1 hl;have vx:=aG hx hs;have vk:=aG hk hs;have vv:=aG hv hs;obtain⟨hf,aAB⟩:=aAB;have hck:∀em,(QO em 10000 kt (act.eval ko)).run P K.w= .ok () K.w:=fun em=>iJ K.w em hks hkS ZM vk hf;split at aAB
   ·rename_i n he;split at aAB
    ·rename_i es c hn;rw[he] at vx;generalize hcv:act.eval mo=cv at vx;cases vx;obtain⟨ces,hh,hm⟩:=(hr.blk n _ hn).aCG;split at aAB
     ·rename_i j hfd;obtain⟨hj,heq⟩:=wG hfd;have hfk:=dD K.w hks hkS ZM vk hm hfd;have hjc:j<ces.size:=by have:=hm.1;simp at this;omega
      obtain⟨ce,hce⟩:∃ce,ce=ces.toList.getD j default:=⟨_,rfl⟩;have aG5:=np (P:=P) K.w vk (hm.2 j hj).1 heq;have hge:ces[j]?=some ce:=by rw[hce];simp[Kc,hjc]
      have hmj:=hm.2 j hj;rw[←hce] at aG5 hmj;rw[Qh,←hce] at hfk;refine qC hr hn hh (ces':=ces.modify j fun e=>{e with key:=act.eval ko,val:=act.eval vo}) ?_ (nx:= .skip) (cv:=Kj) ?_ (.inr ⟨rfl,rfl⟩) (.undef K) aAB
      ·rw[oH hjc,←hce];exact hm.set j vk vv hmj.2.2
      simp[execOp,hop,Wf,hcv,run_underlying hu,cM hh,hck,hfk,hge,aG5,gG _ hh rfl]
     ·rename_i hfd;have hfk:=dD K.w hks hkS ZM vk hm hfd;refine qC hr hn hh (ces':=ces.push ⟨act.eval ko,act.eval vo,c⟩) ?_ (nx:= .skip) (cv:=Kj) ?_ (.inr ⟨rfl,rfl⟩) (.undef K) aAB
      ·rw[Wh];exact hm.push vk vv rfl
      simp[execOp,hop,Wf,hcv,run_underlying hu,cM hh,hck,hfk,gG _ hh rfl]
     exact aAB.elim
    exact aAB.elim
   exact aAB.elim
  simp at hl
 case h_3 t mo ko hop=>
  split at hl
  ·rename_i kt et hu;obtain⟨kS,hkS,hl⟩:=Kd.1 hl;obtain⟨ks,hks,hl⟩:=Kd.1 hl;obtain⟨z,hz,hl⟩:=Kd.1 hl;obtain⟨zv,hzv,hl⟩:=Kd.1 hl;obtain⟨lx,hx,hl⟩:=Kd.1 hl;obtain⟨lk,hk,rfl⟩:=Kg.1 hl;obtain⟨it,hit,hz⟩:=Kd.1 hz;have hzr:(zeroValue et).run P K.w= .ok z K.w:=by simp[zeroValue,typeInfo,hit,hz]
   have vz:=dU hzv K;have two:∀(v:V) (cv:Value) (n:Nat),VR K v cv→VR K (.tup [v, .int .i64 n]) (.tuple #[cv, .int .i64 n]):=fun v cv n h=> .tup _ _ rfl fun i hi=>by
    match i,hi with
    |0,_=>exact h
    |1,_=>exact .int .i64 n
   have vx:=aG hx hs;have vk:=aG hk hs;obtain⟨hf,aAB⟩:=aAB;have hck:∀em,(QO em 10000 kt (act.eval ko)).run P K.w= .ok () K.w:=fun em=>iJ K.w em hks hkS ZM vk hf;split at aAB
   ·rename_i n he;split at aAB
    ·rename_i es c hn;rw[he] at vx;generalize hcv:act.eval mo=cv at vx;cases vx;obtain⟨ces,hh,hm⟩:=(hr.blk n _ hn).aCG;split at aAB
     ·rename_i j hfd;obtain⟨hj,heq⟩:=wG hfd;have hfk:=dD K.w hks hkS ZM vk hm hfd;have hjc:j<ces.size:=by have:=hm.1;simp at this;omega
      obtain⟨ce,hce⟩:∃ce,ce=ces.toList.getD j default:=⟨_,rfl⟩;have aG5:=np (P:=P) K.w vk (hm.2 j hj).1 heq;have hge:ces[j]?=some ce:=by rw[hce];simp[Kc,hjc]
      have hmj:=hm.2 j hj;rw[←hce] at aG5 hmj;rw[Qh,←hce] at hfk;have hbn:=hmj.2.2;refine qC hr hn hh (ces':=ces.modify j fun e=>{e with key:=act.eval ko}) ?_ (nx:= .value (.tuple #[ce.val, .int .i64 (es.getD j default).b])) ?_ (.inl rfl) (two _ _ _ hmj.2.1) aAB
      ·rw[oH hjc,←hce];exact hm.set j vk hmj.2.1 hbn
      simp[execOp,hop,Wn,hcv,run_underlying hu,cM hh,hck,hfk,hge,aG5,gG _ hh rfl,goInt];rw[hbn];simp[Kc]
     ·rename_i hfd;have hfk:=dD K.w hks hkS ZM vk hm hfd;refine qC hr hn hh (ces':=ces.push ⟨act.eval ko,z,c⟩) ?_ (nx:= .value (.tuple #[z, .int .i64 c])) ?_ (.inl rfl) (two _ _ _ vz) aAB
      ·rw[Wh];exact hm.push vk vz rfl
      simp[execOp,hop,Wn,hcv,run_underlying hu,cM hh,hck,hfk,hzr,gG _ hh rfl,goInt]
     exact aAB.elim
    exact aAB.elim
   exact aAB.elim
  simp at hl
 case h_4 t mo so vo hop=>
  split at hl
  ·rename_i kt et hu;obtain⟨lx,hx,hl⟩:=Kd.1 hl;obtain⟨ls,hss,hl⟩:=Kd.1 hl;obtain⟨lv,hv,rfl⟩:=Kg.1 hl;have vx:=aG hx hs;have vs:=aG hss hs;have vv:=aG hv hs;simp only[MOp.sem] at aAB;split at aAB
   ·rename_i n kk b he hes;split at aAB
    ·rename_i es c hn;obtain⟨j,hj,hR⟩:=aAB;rw[he] at vx;rw[hes] at vs;generalize hcv:act.eval mo=cv at vx;generalize hcs:act.eval so=cs at vs;cases vx;cases vs;obtain⟨ces,hh,hm⟩:=(hr.blk n _ hn).aCG;have hfi:ces.findIdx? (fun e=>(e.born:Int)==b)=some j:=by
      have:∀(es:List ME) (cl:List MapEntry),MEs K es cl→cl.findIdx? (fun e=>(e.born:Int)==b)=es.findIdx? (fun e=>(e.b:Int)==b):=by
       intro es;induction es with
       |nil=>intro cl hm;have:=hm.1;cases cl with
        |nil=>rfl
        |cons=>simp at this
       |cons e es ih=>
        intro cl hm;cases cl with
        |nil=>have:=hm.1;simp at this
        |cons c cl=>rw[Wc,Wc,ih cl hm.tail,hm.head.2.2]
      rw[show ces.findIdx? (fun e=>(e.born:Int)==b)=ces.toList.findIdx? (fun e=>(e.born:Int)==b) from by cases ces;simp,this es _ hm,hj]
     have hjl:j<es.length:=by
      have:=List.findIdx?_eq_some_iff_findIdx_eq.1 hj;exact this.1
     have hjc:j<ces.size:=by have:=hm.1;simp at this;omega
     refine qC hr hn hh (ces':=ces.modify j fun e=>{e with val:=act.eval vo}) ?_ (nx:= .skip) (cv:=Kj) ?_ (.inr ⟨rfl,rfl⟩) (.undef K) hR
     ·rw[oH hjc];exact hm.set j (hm.2 j hjl).1 vv (hm.2 j hjl).2.2
     simp[execOp,hop,Instr.entryStore,hcv,hcs,asInt,asIntOf,cM hh,hfi,gG _ hh rfl]
    exact aAB.elim
   exact aAB.elim
  simp at hl
 case h_5 args ts hop=>
  split at hl
  ·rename_i mo ko t t' hxs hts;have ha:args=#[mo,ko]:=by apply Qx;simpa using hxs
   have ht:ts=#[t,t']:=by apply Qx;simpa using hts
   subst ha ht;split at hl
   ·rename_i kt et hu;obtain⟨kS,hkS,hl⟩:=Kd.1 hl;obtain⟨ks,hks,hl⟩:=Kd.1 hl;obtain⟨lx,hx,hl⟩:=Kd.1 hl;obtain⟨lk,hk,rfl⟩:=Kg.1 hl;have vx:=aG hx hs;have vk:=aG hk hs;obtain⟨hf,aAB⟩:=aAB;have hck:∀em,(QO em 10000 kt (act.eval ko)).run P K.w= .ok () K.w:=fun em=>iJ K.w em hks hkS ZM vk hf;have vu:VR K Ka (.tuple #[]):= .undef K;split at aAB
    ·rename_i he;rw[he] at vx;generalize hcv:act.eval mo=cv at vx;cases vx;exact⟨.value (.tuple #[]), .tuple #[],K,Ka,h,by simp[execOp,hop,resolve,invoke,builtin,QJ,hcv,run_underlying hu,hck], .inl rfl, .refl K,fun n hn=> .inl hn,vu,hr,aAB⟩
    ·rename_i n he;split at aAB
     ·rename_i es c hn;rw[he] at vx;generalize hcv:act.eval mo=cv at vx;cases vx;obtain⟨ces,hh,hm⟩:=(hr.blk n _ hn).aCG;split at aAB
      ·rename_i j hfd;have hfk:=dD K.w hks hkS ZM vk hm hfd;refine qC hr hn hh (ces':=ces.eraseIdxIfInBounds j) ?_ (nx:= .value (.tuple #[])) ?_ (.inl rfl) vu aAB
       ·have:(ces.eraseIdxIfInBounds j).toList=ces.toList.eraseIdx j:=Zm;rw[this];exact hm.erase j
       simp[execOp,hop,resolve,invoke,builtin,QJ,hcv,run_underlying hu,cM hh,hck,hfk,gG _ hh rfl]
      ·rename_i hfd;have hfk:=dD K.w hks hkS ZM vk hm hfd;refine qC hr hn hh (ces':=ces) hm (nx:= .value (.tuple #[])) ?_ (.inl rfl) vu aAB;simp[execOp,hop,resolve,invoke,builtin,QJ,hcv,run_underlying hu,cM hh,hck,hfk,gG _ hh rfl]
      exact aAB.elim
     exact aAB.elim
    exact aAB.elim
   simp at hl
  simp at hl
 case h_6 t xo hop=>
  split at hl
  ·rename_i kt et hu;obtain⟨lx,hx,rfl⟩:=Kg.1 hl;have vx:=aG hx hs;simp only[MOp.sem] at aAB;split at aAB
   ·rename_i n he;split at aAB
    ·rename_i es c hn;rw[he] at vx;generalize hcv:act.eval xo=cv at vx;cases vx with
     |map _ hln=>
      obtain⟨ces,hh,hm⟩:=(hr.blk n _ hn).aCG;have hmu:(K.push a (.mapIter (some (K.mu n)) c #[] c) 0).mu a=K.w.heap.size:=by simp[Kt]
      have hna:n≠a:=fun e=>aAJ (e▸hln);have hmn:(K.push a (.mapIter (some (K.mu n)) c #[] c) 0).mu n=K.mu n:=by simp[Kt,hna]
      obtain⟨h1,h2,h3⟩:=hr.aEX aAJ (o:= .mapIter (some (K.mu n)) c #[] c) (b:= .mit n c [] c) (.mit n c [] c (by rw[hmu,hmn];exact cT _ _) (.inr hln));have hv:=VR.ptr (K:=K.push a (.mapIter (some (K.mu n)) c #[] c) 0) a .leaf 0 0 (.inl rfl);rw[hmu] at hv;exact⟨_,_,K.push a (.mapIter (some (K.mu n)) c #[] c) 0,_,_,by simp[execOp,hop,Instr.range,hcv,run_underlying hu,cM hh,Kt], .inl rfl,h1,h2,hv,h3,aAB⟩
    exact aAB.elim
   exact aAB.elim
  simp at hl
 case h_7 xo hop=>
  obtain⟨lx,hx,rfl⟩:=Kg.1 hl;have vx:=aG hx hs;simp only[MOp.sem] at aAB;split at aAB
  ·rename_i it he;split at aAB
   ·rename_i m since seen last hit;split at aAB
    ·rename_i es c hn;obtain⟨hbs,hsl,hR1,hR2⟩:=aAB;rw[he] at vx;generalize hcv:act.eval xo=cv at vx;cases vx with
     |ptr _ _ _ _ aO8=>
      obtain⟨ces,hh,hm⟩:=(hr.blk m _ hn).aCG;have aPw:=hr.blk it _ hit;cases aPw with
      |mit _ _ _ _ hhi hlm=>
       have hev:act.eval xo= .pointer (some ⟨K.mu it,0,none⟩):=by rw[hcv];simp
       have aFV:∀e∈ces,e.born<since:=fun e hce=>by
        obtain⟨x,hx,_,_,hxb⟩:=hm.back (Qc.2 hce);rw[hxb];exact hbs x hx
       have hc:(!seen.toArray.isEmpty&& !ces.isEmpty&&ces.all (fun e=>decide (e.born≥last)))=false:=by
        cases hce:ces.isEmpty with
        |true=>simp
        |false=>
         have hne:ces≠#[]:=by intro e;rw[e] at hce;simp at hce
         have:ces.all (fun e=>decide (e.born≥last))=false:=by
          rw[Bool.eq_false_iff];intro aAc;have h0:0<ces.size:=Wd.2 hne;have h1:=Array.all_eq_true.1 aAc 0 h0;have h2:=aFV _ (Wi h0);simp at h1;omega
         simp[this]
       obtain⟨left,hleft⟩:∃left,left=ces.filter fun e=> !seen.toArray.contains e.born:=⟨_,rfl⟩;have hold:left.filter (fun e=>decide (e.born<since))=left:=by
        rw[Array.filter_eq_self];intro e hce;rw[hleft] at hce;simpa using aFV e (Qz.1 hce).1
       have aO2:left.filter (fun e=>decide (e.born≥since))=#[]:=by
        rw[Array.filter_eq_empty_iff];intro e hce;rw[hleft] at hce;have:=aFV e (Qz.1 hce).1;simp;omega
       by_cases aD7:left=#[]
       ·have aAc:∀e∈es,e.b∈seen:=fun e hee=>by
         obtain⟨cx,hcx,_,_,hb⟩:=hm.get hee;have h0:cx∉left:=by rw[aD7];simp
         rw[hleft,Qz] at h0;have h1:seen.toArray.contains cx.born=true:=by
          cases hq:seen.toArray.contains cx.born with
          |true=>rfl
          |false=>exact absurd ⟨Qc.1 hcx,by simp only[hq];rfl⟩ h0
         rw[←hb];simpa using h1
        refine⟨.value (.tuple #[.bool false]), .tuple #[.bool false],K, .tup [.bool false],h,?_, .inl rfl, .refl K,fun n hn=> .inl hn, .tup _ _ rfl (fun i hi=>by
         match i,hi with
         |0,_=>exact .bool false),hr,hR2 aAc⟩
        simp only[execOp,hop,hev,WD,Kv,uT hhi rfl,cM hh,Ks,hc,←hleft,hold,aO2];simp[aD7,Question.forced]
       have aAk:0<left.size:=Wd.2 aD7;obtain⟨i,w',hch,hi,hw'⟩:=xe (P:=P) K.w left.size aAk;have aAm:=Wi hi;obtain⟨cx,hcx⟩:∃cx,cx=left[i]:=⟨_,rfl⟩;rw[←hcx] at aAm;rw[hleft,Qz] at aAm;obtain⟨x,hxe,hxk,hxv,hxb⟩:=hm.back (Qc.2 aAm.1);have hns:x.b∉seen:=by
        rw[←hxb];have:=aAm.2;simpa using this
       have hR:=hR1 x hxe hns;obtain⟨K1,hK1,hle1,hr1,hmu1⟩:∃K1:Ker,K1.w=w'∧K.le K1∧Rel K1 h∧(K1.mu=K.mu∧K1.live=K.live):=by
        rcases hw' with rfl|rfl
        ·exact⟨K,rfl, .refl K,hr,rfl,rfl⟩
        exact⟨K.drew,rfl,K.le_drew,hr.drew,rfl,rfl⟩
       have aPA:K1.w.heap[K1.mu it]?=some (.mapIter (some (K1.mu m)) since seen.toArray last):=by
        have hb1:=hr1.blk it _ hit;cases hb1 with
        |mit _ _ _ _ q _=>exact q
       have aAS:=K1.aBe (o:= .mapIter (some (K1.mu m)) since (seen.toArray.push x.b) c) aPA rfl rfl
       obtain⟨g1,g2⟩:=hr1.aCz hit aPA rfl (o:= .mapIter (some (K1.mu m)) since (seen.toArray.push x.b) c) (b1:= .mit m since (seen++[x.b]) c) rfl
        (.mit m since (seen++[x.b]) c (by rw[show(seen++[x.b]).toArray=seen.toArray.push x.b by simp];exact d5 aPA _) (show K1.live m from by rw[hmu1.2];exact hlm))
       refine⟨.value (.tuple #[.bool true,cx.key,cx.val]), .tuple #[.bool true,cx.key,cx.val],_, .tup [.bool true,x.k,x.v],_,?_, .inl rfl,hle1.trans g1,fun n hn=> .inl (by rw[←hmu1.2];exact hn),?_,g2,hR⟩
       ·simp only[execOp,hop,hev,WD,Kv,uT hhi rfl,cM hh,Ks,hc,←hleft,hold,aO2];have hne:left.isEmpty=false:=by simpa using aD7
        have hci:(left.map some)[i]?=some (some cx):=by simp[hi,hcx]
        have aAQ:(setObj (K.mu it) (.mapIter (some (K.mu m)) since (seen.toArray.push cx.born) c)).run P w'= .ok () (w'.putObj (K.mu it) (.mapIter (some (K.mu m)) since (seen.toArray.push cx.born) c)):=by
         rw[←hK1,←hmu1.1];exact gG _ aPA rfl
        simp only[hne,Bool.false_eq_true,if_false,Array.empty_append,Array.append_empty,Array.size_map,hch,Ks,hci,Kv,aAQ,KE];simp only[Ker.obj,hK1,hmu1.1,hxb]
       exact .tup _ _ rfl fun i hi=>by
        match i,hi with
        |0,_=>exact .bool true
        |1,_=>exact(hxk.mono hle1).aAl aAS
        |2,_=>exact(hxv.mono hle1).aAl aAS
    exact aAB.elim
   exact aAB.elim
  exact aAB.elim
 case h_8 xo hop=>
  obtain⟨lx,hx,rfl⟩:=Kg.1 hl;have vx:=aG hx hs;simp only[MOp.sem] at aAB;split at aAB
  ·rename_i it he;split at aAB
   ·rename_i m since seen last hit;split at aAB
    ·rename_i es c hn;obtain⟨rfl,b,e,aFO,hfe,hR⟩:=aAB;rw[he] at vx;generalize hcv:act.eval xo=cv at vx;cases vx with
     |ptr _ _ _ _ aO8=>
      obtain⟨ces,hh,hm⟩:=(hr.blk m _ hn).aCG;have aPw:=hr.blk it _ hit;cases aPw with
      |mit _ _ _ _ hhi hlm=>
       have hev:act.eval xo= .pointer (some ⟨K.mu it,0,none⟩):=by rw[hcv];simp
       obtain⟨ce,hce,hck,aZP⟩:∃ce,ces.find? (fun e=>e.born==b)=some ce∧VR K e.k ce.key∧VR K e.v ce.val:=by
        have:∀(es:List ME) (cl:List MapEntry),MEs K es cl→∀e,es.find? (fun e=>e.b==b)=some e→∃ce,cl.find? (fun e=>e.born==b)=some ce∧VR K e.k ce.key∧VR K e.v ce.val:=by
         intro es;induction es with
         |nil=>intro cl hm e he;simp at he
         |cons x es ih=>
          intro cl hm e he;cases cl with
          |nil=>have:=hm.1;simp at this
          |cons cx cl=>
           rw[Wy] at he;rw[Wy,hm.head.2.2];cases hxb:(x.b==b) with
           |true=>
            rw[hxb] at he;injection he with he;subst he;exact⟨cx,rfl,hm.head.1,hm.head.2.1⟩
           |false=>
            rw[hxb] at he;exact ih cl hm.tail e he
        obtain⟨ce,h1,h2,h3⟩:=this es _ hm e hfe;exact⟨ce,by rw[←Array.find?_toList];exact h1,h2,h3⟩
       have hbk:seen.toArray.back?=some b:=by simpa using aFO
       refine⟨.value (.tuple #[ce.key,ce.val]), .tuple #[ce.key,ce.val],K, .tup [e.k,e.v],h,?_, .inl rfl, .refl K,fun n hn=> .inl hn, .tup _ _ rfl (fun i hi=>by
        match i,hi with
        |0,_=>exact hck
        |1,_=>exact aZP),hr,hR⟩
       simp[execOp,hop,hev,Instr.entry,uT hhi rfl,cM hh,hbk,hce]
    exact aAB.elim
   exact aAB.elim
  exact aAB.elim
 case h_9=>simp at hl
end
inductive LOp where
 |val (x:aW)
 |box (k:Sh) (x:aK)
 |bslice (k:Sh) (es:List aK)
 |append (k:Sh) (bytes:Nat) (x y:aK)
 |store (t:Sh) (x v:aK)
 |call (f:Nat) (args:List aK)
 |callv (x:aK) (args:List aK)
 |mkz (k:Sh) (bytes:Nat) (x:aK) (z:V)
 |appz (k:Sh) (bytes:Nat) (x y:aK) (z:V)
 |clear (k:Sh) (x:aK) (z:V)
 |callw (f:Nat) (args fl:List aK)
 |mp (m:MOp)
 deriving Inhabited
def sG(h:Hp):Own→Prop
 | .free=>False
 | .tok n=>h n=some .tip
 |_=>True
def LOp.sem(sl:List V)(h:Hp)(a:Nat)(R:V→Hp→Prop):LOp→Prop
 | .val x=>x.sem sl h fun v=>R v h
 | .box k x=>(x.ev sl).fits k=true∧R (.ptr a k 0 0) (h.set a (.arr k [x.ev sl]))
 | .bslice k es=>(∀e∈es,(e.ev sl).fits k=true)∧(R (.sl k (.tok a) (es.map (aK.ev sl))) (h.set a .tip)∨R (.rs a k 0 es.length) (h.set a (.arr k (es.map (aK.ev sl)))))
 | .append k bytes x y=>match dQ h (y.ev sl) with
  |some (ky,ys)=>ky=k∧match x.ev sl with
   | .sl kx own xs=>kx=k∧(xs.length+ys.length)*bytes≤140737488355328∧((sG h own∧R (.sl k (fB a own ys) (xs++ys)) (gC h a own ys))∨(own= .nil∧xs=[]∧ys≠ []∧R (.rs a k 0 ys.length) (h.set a (.arr k ys))))
   | .rs n kx off len=>match h n with
    |some (.arr kb es)=>kx=k∧((ys=[]∧R (.rs n kx off len) h)∨(kb=k∧off=0∧len≤es.length∧ys≠ []∧(len+ys.length)*bytes≤140737488355328∧R (.rs a k 0 (len+ys.length)) ((h.del n).set a (.arr k (es.take len++ys)))))
    |_=>False
   |_=>False
  |none=>False
 | .store t x v=>match x.ev sl with
  | .ptr n k i o=>match h n with
   |some (.arr k' es)=>k'=k∧i<es.length∧cA k t o∧(v.ev sl).fits t=true∧R Ka (h.set n (.arr k (es.set i (bZ t o (es.getD i Ka) (v.ev sl)))))
   |_=>False
  |_=>False
 | .call _ _=>False
 | .callv _ _=>False
 | .mkz k bytes x z=>match x.ev sl with
  | .int _ m=>0≤m∧m.toNat*bytes≤140737488355328∧(R (.rs a k 0 (mkN m.toNat z)) (h.set a (.arr k (mkL m.toNat z)))∨R (.sl k (.tok a) (mkL m.toNat z)) (h.set a .tip))
  |_=>False
 | .appz k bytes x y z=>match x.ev sl,y.ev sl with
  | .sl k' .nil [], .int _ m=>k'=k∧0<m∧m.toNat*bytes≤140737488355328∧R (.rs a k 0 m.toNat) (h.set a (.arr k (Kw m.toNat z)))
  |_,_=>False
 | .clear k x z=>match x.ev sl with
  | .rs n k' off ln=>match h n with
   |some (.arr kb es)=>k'=k∧kb=k∧off+ln≤es.length∧R Ka (h.set n (.arr k (es.take off++Kw ln z++es.drop (off+ln))))
   |_=>False
  | .sl _ _ []=>R Ka h
  |_=>False
 | .callw _ _ _=>False
 | .mp m=>m.sem sl h a R
def kP(P:Program)(f:FuncId):Bool:=
 match P.funcs[f]? with
 |some fn=> !(fn.name== "runtime.NumGoroutine" ||fn.body.isNone)
 |none=>false
def aR(P:Program)(f:FuncId)(args:List V)(h:Hp)(nx:Nat)(R:V→Hp→Nat→Prop):Prop:=
 kP P f=true∧∀(K:Ker) (cargs:Array Value),(∀n,K.live n→n<nx)→Rel K h→VRs K args cargs→
  Calls P f cargs K.w fun e w'=>∃K' v cv h' nx',K'.w=w'∧e= .returned cv∧K.le K'∧VR K' v cv∧Rel K' h'∧(∀n,K'.live n→n<nx'∧(K.live n∨nx≤n))∧nx≤nx'∧R v h' nx'
theorem aR.mono{P:Program}{f:FuncId}{args:List V}{h:Hp}{nx:Nat}{R R':V→Hp→Nat→Prop}(c:aR P f args h nx R)(hr:∀v h' nx',nx≤nx'→R v h' nx'→R' v h' nx'):aR P f args h nx R':=
 ⟨c.1,fun K cargs hl hrel hv=>(c.2 K cargs hl hrel hv).mono fun _ _ ⟨K',v,cv,h',nx',a,b,c,d,e,g,i,j⟩=>⟨K',v,cv,h',nx',a,b,c,d,e,g,i,hr v h' nx' i j⟩⟩
def dX(P:Program)(n:Nat)(args:List V)(h:Hp)(nx:Nat)(R:V→Hp→Nat→Prop):Prop:=
 ∀(m:Nat) (K:Ker) (cargs:Array Value),(∀i,K.live i→i<nx)→K.live n→Rel K h→VRs K args cargs→
  YieldAt Fence.wide m P (K.mu n) cargs K.w fun e w'=>∃K' v cv h' nx',K'.w=w'∧e= .returned cv∧K.le K'∧VR K' v cv∧Rel K' h'∧(∀i,K'.live i→i<nx'∧(K.live i∨nx≤i))∧nx≤nx'∧R v h' nx'
theorem dX.mono{P:Program}{n:Nat}{args:List V}{h:Hp}{nx:Nat}{R R':V→Hp→Nat→Prop}(c:dX P n args h nx R)(hr:∀v h' nx',nx≤nx'→R v h' nx'→R' v h' nx'):dX P n args h nx R':=
 fun m K cargs hl hn hrel hv=>(c m K cargs hl hn hrel hv).mono fun _ _ ⟨K',v,cv,h',nx',a,b,c,d,e,g,i,j⟩=>⟨K',v,cv,h',nx',a,b,c,d,e,g,i,hr v h' nx' i j⟩
structure aA where
 dst:Option Nat
 g:Option (Nat×Bool)
 op:LOp
 deriving Inhabited
structure St where
 sl:List V
 h:Hp
 nx:Nat
def bL(sl:List V)(dst:Option Nat)(v:V):List V:=
 match dst with
 |some d=>sl.set d v
 |none=>sl
def LOp.run(P:Program)(sl:List V)(h:Hp)(nx:Nat)(R:V→Hp→Nat→Prop):LOp→Prop
 | .val x=>x.sem sl h fun v=>R v h nx
 | .call f args=>aR P f (args.map (aK.ev sl)) h nx R
 | .callv x args=>match x.ev sl with
  | .fn (.func f) first cap=>aR P f (first++args.map (aK.ev sl)++cap) h nx R
  | .yld n=>dX P n (args.map (aK.ev sl)) h nx R
  |_=>False
 |o=>o.sem sl h nx fun v h'=>R v h' (nx+1)
def aY(P:Program):List aA→(St→Prop)→St→Prop
 | [],Q,s=>Q s
 |o::r,Q,s=>
  match o.g with
  |none=>o.op.run P s.sl s.h s.nx fun v h' nx'=>aY P r Q ⟨bL s.sl o.dst v,h',nx'⟩
  |some (t,want)=>match s.sl.getD t Ka with
   | .bool b=>if b=want then o.op.run P s.sl s.h s.nx fun v h' nx'=>aY P r Q ⟨bL s.sl o.dst v,h',nx'⟩ else aY P r Q ⟨bL s.sl o.dst Ka,s.h,s.nx⟩
   | .tup _=>aY P r Q ⟨bL s.sl o.dst Ka,s.h,s.nx⟩
   |_=>False
def dt:Operand→Operand→Bool
 | .tmp a, .tmp b=>a==b
 | .const (.int k a), .const (.int k' b)=>decide (k=k')&&a==b
 |_,_=>false
theorem B4{x y:Operand}(h:dt x y=true):x=y:=by
 unfold dt at h;split at h
 ·rw[eq_of_beq h]
 ·simp only[Ky,decide_eq_true_eq] at h;rw[h.1,eq_of_beq h.2]
 cases h
def yh:Operand→Bool
 | .const (.int _ n)=>n==0
 |_=>false
theorem BH{x:Operand}(h:yh x=true):∃k,x= .const (.int k 0):=by
 unfold yh at h;split at h
 ·rename_i k n;rw[eq_of_beq h];exact⟨k,rfl⟩
 cases h
def jX(P:Program)(o:Oper):Option LOp:=
 match o.op with
 | .box t x=>(cK P t).bind fun k=>(aO P t x).map (.box k)
 | .alloc t=>(cK P t).bind fun k=>((P.info? t).bind (·.zero)).bind fun z=>(bc P t z).map fun v=> .box k (.const v)
 | .buildSlice t n parts=>match P.underlying t with
  |some (.slice e)=>match P.info? e with
   |some i=>match i.zero with
    |some _=>(cK P e).bind fun k=>if parts.toList.map (·.1)=Kq n∧n*k.size≤16777216 then (eJ P (Kw n e) (parts.toList.map (·.2))).map (.bslice k) else none
    |none=>none
   |none=>none
  |_=>none
 | .store t a x=>(cK P t).bind fun k=>(aO P 0 a).bind fun a=>(aO P t x).map (.store k a)
 | .call {callee:= .builtin .append,args:=args,argTypes:=ts}=>match args.toList,ts.toList with
  | [x,y],[t,t']=>if t'=t then match P.underlying t with
   |some (.slice e)=>match P.info? e with
    |some i=>match i.zero with
     |some z=>(cK P e).bind fun k=>if z.cells.size=k.size∧0<k.size∧0<i.bytes then (aO P t x).bind fun x=>(aO P t y).map fun y=> .append k i.bytes x y else none
     |none=>none
    |none=>none
   |_=>none
   else match P.underlying t,P.underlying t' with
    |some (.slice e),some (.int _)=>match P.info? e with
     |some i=>match i.zero with
      |some z=>(cK P e).bind fun k=>(bc P e z).bind fun zv=>if zv.fits k=true∧0<k.size∧0<i.bytes then (aO P t x).bind fun x=>(aO P t' y).map fun y=> .appz k i.bytes x y zv else none
      |none=>none
     |none=>none
    |_,_=>none
  |_,_=>none
 | .call {callee:= .value (.func f),args:=args,argTypes:=ts}=>(eJ P ts.toList args.toList).map (.call f)
 | .call {callee:= .value (.tmp n),args:=args,argTypes:=ts}=>(eJ P ts.toList args.toList).map (.callv (.slot n))
 | .call {callee:= .builtin .clear,args:=args,argTypes:=ts}=>match args.toList,ts.toList with
  | [x],[t]=>match P.underlying t with
   |some (.slice e)=>match P.info? e with
    |some i=>match i.zero with
     |some z=>(cK P e).bind fun k=>(bc P e z).bind fun zv=>if zv.fits k=true then (aO P t x).map fun x=> .clear k x zv else none
     |none=>none
    |none=>none
   |_=>none
  |_,_=>none
 | .makeSlice t l c=>if (dt l c||yh l)=true then match P.underlying t with
  |some (.slice e)=>match P.info? e with
   |some i=>match i.zero with
    |some z=>(cK P e).bind fun k=>(bc P e z).bind fun zv=>if zv.fits k=true∧0<i.bytes then (aO P 0 c).map fun x=> .mkz k i.bytes x (if dt l c=true then zv else .top) else none
    |none=>none
   |none=>none
  |_=>none
  else none
 |_=>match zt P o with
  |some m=>some (.mp m)
  |none=>(wJ P o).map .val
theorem jR{P:Program}{f:FuncId}(h:kP P f=true)(args:Array Value)(w:World):(callFunc f args).run P w= .ok (.enter f args) w:=by
 unfold kP at h;cases hf:P.funcs[f]? with
 |none=>simp[hf] at h
 |some fn=>
  simp only[hf,QM,Bool.or_eq_false_iff] at h;have h1:fn.name≠ "runtime.NumGoroutine" :=by simpa using h.1
  have h2:fn.body≠none:=fun e=>by simp[e] at h
  simp[callFunc,hf,h1,h2]
abbrev FR(rd:Option Nat):Fence:={Fence.wide with round:=rd}
theorem i7{rd:Option Nat}{n:Nat}{P:Program}{f:FuncId}{args:Array Value}{w:World}{R:Ending→World→Prop}(h:Calls P f args w R):CallsIn (FR rd) n P f args w R:=
 show CallsIn Fence.wide n P f args w R from callsIn_wide.2 h
theorem sP{P:Program}{o:Oper}{ρ:Operand→Value}{w w':World}{nv:Next}(h:(execOp ρ o).run P w= .ok nv w')(hd:∀d,nv≠ .defer d)(rd:Option Nat):(o.semAt rd ρ).run P w= .ok nv w':=by
 by_cases hc:∃c,o.op= .defer c
 ·obtain⟨c,hc⟩:=hc;exfalso;simp only[execOp,hc,Kv] at h;generalize (resolve ρ c o.type).run P w=r at h;cases r with
  |ok d w1=>simp only[Ks,KE] at h;injection h with h1 _;exact hd _ h1.symm
  |halt x w1=>cases h
 rw[Oper.semAt_eq rd ρ o (fun c e=>hc ⟨c,e⟩)];exact h
theorem tV{P:Program}{o:Oper}{act:Act}{w w':World}{cv:Value}{rd:Option Nat}{m:Nat}{next:Act→World→Prop}{Q:Exit→Act→World→Prop}(h:(execOp act.eval o).run P w= .ok (.value cv) w')(hn:next (act.put o.dst cv) w'):o.wpIn (FR rd) m P act w next Q:=by
 refine⟨fun _ _=>trivial,?_⟩;rw[sP h Zm rd];exact hn
theorem bu{P:Program}{o:Oper}{act:Act}{w w':World}{rd:Option Nat}{m:Nat}{next:Act→World→Prop}{Q:Exit→Act→World→Prop}(h:(execOp act.eval o).run P w= .ok .skip w')(hn:next (act.put o.dst Kj) w'):o.wpIn (FR rd) m P act w next Q:=by
 refine⟨fun _ _=>trivial,?_⟩;rw[sP h Zm rd];exact hn
theorem ru{P:Program}{o:Oper}{act:Act}{w w':World}{f:FuncId}{args:Array Value}{rd:Option Nat}{m:Nat}{next:Act→World→Prop}{Q:Exit→Act→World→Prop}(h:(execOp act.eval o).run P w= .ok (.enter f args) w')
 (hn:Calls P f args w' fun e w''=>∃v,e= .returned v∧next (act.put o.dst v) w''):o.wpIn (FR rd) m P act w next Q:=by
 refine⟨fun _ _=>trivial,?_⟩;rw[sP h Zm rd];refine⟨(by intro h;cases h),i7 (hn.mono ?_)⟩;rintro e w'' ⟨v,rfl,h⟩;exact h
def tE(P:Program)(o:Oper)(act:Act)(K:Ker)(nx:Nat)(R:V→Hp→Nat→Prop):Prop:=
 ∀(rd:Option Nat) (m:Nat) (next:Act→World→Prop) (Q:Exit→Act→World→Prop),
  (∀K' v cv h' nx',K.le K'→VR K' v cv→Rel K' h'→(∀n,K'.live n→n<nx'∧(K.live n∨nx≤n))→nx≤nx'→R v h' nx'→next (act.put o.dst cv) K'.w)→o.wpIn (FR rd) m P act K.w next Q
theorem eV.toC{P:Program}{o:Oper}{act:Act}{K:Ker}{nx:Nat}{R:V→Hp→Nat→Prop}(hl:∀n,K.live n→n<nx)(y:eV P o act K nx fun v h'=>R v h' (nx+1)):tE P o act K nx R:=by
 intro rd m next Q hn
 obtain⟨nx',cv,K',v,h',h1,h2,h3,h4,h5,h6,h7⟩:=y;have aBt:∀n,K'.live n→n<nx+1∧(K.live n∨nx≤n):=fun n hn=>by
  rcases h4 n hn with h|h
  ·have:=hl n h;exact⟨or, .inl h⟩
  exact⟨or, .inr or⟩
 have:=hn K' v cv h' (nx+1) h3 h5 h6 aBt or h7;rcases h2 with rfl|⟨rfl,rfl⟩
 ·exact tV h1 this
 exact bu h1 this
theorem xN.toC{P:Program}{o:Oper}{act:Act}{K:Ker}{nx:Nat}{h:Hp}{R:V→Hp→Nat→Prop}(hl:∀n,K.live n→n<nx)(hr:Rel K h)(y:xN P o act K fun v=>R v h nx):tE P o act K nx R:=by
 intro rd m next Q hn
 obtain⟨cv,v,h1,h2,h3⟩:=y;refine tV h1 ?_;exact hn K v cv h nx (.refl K) h2 hr (fun n hn=>⟨hl n hn, .inl hn⟩) (KF _) h3
theorem oI{P:Program}{K:Ker}{sl:List V}{act:Act}(hs:SlV K sl act){xs:Array Operand}{ts:List TypeId}{ls:List aK}(h:eJ P ts xs.toList=some ls):VRs K (ls.map (aK.ev sl)) (xs.map act.eval):=by
 obtain⟨a,b⟩:=fN hs _ _ _ h;refine⟨by simpa using a,fun i hi=>?_⟩;have:=b i (by simpa using hi);simpa [Ke,Kc] using this
theorem VRs.append{K:Ker}{a b:List V}{ca cb:Array Value}(h:VRs K a ca)(h':VRs K b cb):VRs K (a++b) (ca++cb):=by
 refine⟨by simp[h.1,h'.1],fun i hi=>?_⟩;have ha:=h.1;simp only[KK] at hi;by_cases e:i<a.length
 ·have:=h.2 i e;simp only[Kc,Ke] at this⊢;rw[Ki e,KG or];exact this
 have:=h'.2 (i-a.length) or;simp only[Kc,Ke] at this⊢;rw[Ko or,Ql or,←ha];exact this
theorem aR.toC{P:Program}{o:Oper}{act:Act}{K:Ker}{nx:Nat}{h:Hp}{R:V→Hp→Nat→Prop}{f:FuncId}{args:List V}{cargs:Array Value}(aAe:(execOp act.eval o).run P K.w= .ok (.enter f cargs) K.w)(hl:∀n,K.live n→n<nx)(hr:Rel K h)(hv:VRs K args cargs)(c:aR P f args h nx R):tE P o act K nx R:=by
 intro rd m next Q hn
 refine ru aAe ((c.2 K cargs hl hr hv).mono ?_);rintro e w' ⟨K',v,cv,h',nx',rfl,rfl,a,b,cc,d,e',g⟩;refine⟨cv,rfl,?_⟩;exact hn K' v cv h' nx' a b cc d e' g
theorem jf{P:Program}{K:Ker}{k:Sh}{t e:TypeId}{i:TypeInfo}(ht:P.underlying t=some (.slice e))(hi:P.info? e=some i){ty:TypeId}{n off len:Nat}{cx cy:Value}(hx:VR K (.rs n k off len) cx)(hy:xO K k [] cy):
 (KI #[t,t] ty #[cx,cy]).run P K.w= .ok cx K.w:=by
 obtain⟨ay,aDx,rfl,_,_⟩:=hy;cases hx with
 |rs _ _ _ _ cap hl hcap hm=>
  have hf:(QC i.size 0 (.slice ay 0 aDx)).run P K.w= .ok #[] K.w:=by
   cases ay with
   |none=>rfl
   |some ad=>simp[QC,loadCells,loadCellsFrom]
  simp[KI,run_underlying ht,sizeOf,typeInfo,hi,Qe,hcap,hf,storeCells]
theorem Rel.aE9{K:Ker}{h:Hp}(r:Rel K h){n:Nat}{k:Sh}{es:List V}(hn:h n=some (.arr k es))(m:Nat)(hm:m≤es.length):Rel K (h.set n (.arr k (es.take m))):=by
 have hd:∀x b,(h.set n (.arr k (es.take m))) x=some b→(x=n∧b= .arr k (es.take m))∨(x≠n∧h x=some b):=fun x b e=>by
  unfold Kb at e;split at e
  ·rename_i hx;injection e with e;exact .inl ⟨hx,e.symm⟩
  rename_i hx;exact .inr ⟨hx,e⟩
 refine⟨fun x b e=>?_,fun x b e=>?_,fun x b e=>?_,fun x y b b' e e' em=>?_,r.size⟩
 ·rcases hd x b e with⟨rfl,_⟩|⟨_,e⟩
  ·exact r.lt _ _ hn
  exact r.lt _ _ e
 ·rcases hd x b e with⟨rfl,_⟩|⟨_,e⟩
  ·exact r.base _ _ hn
  exact r.base _ _ e
 ·rcases hd x b e with⟨rfl,rfl⟩|⟨_,e⟩
  ·have:=r.blk _ _ hn;cases this with
   |arr _ _ c T hh hsz hi hfit hv=>
    have hle:(es.take m).length*k.size≤es.length*k.size:=Kx _ (by simp;omega);refine .arr k _ c T hh or hi (fun x hx=>hfit x (Qo hx)) fun i hi j hj=>?_;have hi':i<m∧i<es.length:=by simpa [Nat.lt_min] using hi
    have e1:(es.take m).getD i Ka=es.getD i Ka:=by simp[Kc,KD,hi'.1]
    rw[e1];exact hv i hi'.2 j hj
  exact r.blk _ _ e
 have g:∀x b,(h.set n (.arr k (es.take m))) x=some b→∃b',h x=some b':=fun x b e=>by
  rcases hd x b e with⟨rfl,_⟩|⟨_,e⟩
  ·exact⟨_,hn⟩
  exact⟨_,e⟩
 obtain⟨_,e1⟩:=g x b e;obtain⟨_,e2⟩:=g y b' e';exact r.inj x y _ _ e1 e2 em
theorem cC{P:Program}{o:Oper}{act:Act}{K:Ker}{sl:List V}{h:Hp}{a:Nat}{R:V→Hp→Prop}{l:LOp}(hl:jX P o=some l)(hs:SlV K sl act)(hr:Rel K h)(aAJ:¬K.live a)
 (aAB:l.sem sl h a R):eV P o act K a R:=by
 unfold jX at hl;split at hl;case h_1 t x hop=>
  obtain⟨k,hk,hl⟩:=Kd.1 hl;obtain⟨lx,hx,rfl⟩:=Kg.1 hl;obtain⟨hf,hR⟩:=aAB;obtain⟨K',q1,q2,q3,q4,q5⟩:=tL (P:=P) hr aAJ (aG hx hs) hf t;refine⟨_,_,K',_,_,?_, .inl rfl,q2,q3,q4,q5,hR⟩;simp only[execOp,hop,Instr.box,Kv,q1,Ks,KE]
 case h_2 t hop=>
  obtain⟨k,hk,hl⟩:=Kd.1 hl;obtain⟨z,hz,hl⟩:=Kd.1 hl;obtain⟨v,hv,rfl⟩:=Kg.1 hl;obtain⟨i,hi,hz⟩:=Kd.1 hz;obtain⟨hf,hR⟩:=aAB;obtain⟨K',q1,q2,q3,q4,q5⟩:=tL (P:=P) hr aAJ (dU hv K) hf t;refine⟨_,_,K',_,_,?_, .inl rfl,q2,q3,q4,q5,hR⟩;have hzv:(zeroValue t).run P K.w= .ok z K.w:=by simp[zeroValue,typeInfo,hi,hz]
  simp only[execOp,hop,Instr.alloc,Kv,hzv,q1,Ks,KE]
 case h_3 t n parts hop=>
  split at hl
  ·rename_i e hu;split at hl
   ·rename_i i hi;split at hl
    ·rename_i z hz;obtain⟨k,hk,hl⟩:=Kd.1 hl;split at hl
     ·rename_i hc;obtain⟨ls,hls,rfl⟩:=Kg.1 hl;obtain⟨hf,hR⟩:=aAB;obtain⟨a1,a2⟩:=fN hs _ _ _ hls;obtain⟨i',d,hi',hd,hsz,_⟩:=fS hk;rw[hi] at hi';injection hi' with hi';subst hi';have hlen:parts.toList.length=n:=by have:=congrArg List.length hc.1;simpa using this
      have hcl:((parts.toList.map (·.2)).map act.eval).length=n:=by simpa using hlen
      have hfv:∀v∈ls.map (aK.ev sl),v.fits k=true:=by
       intro v hv;obtain⟨e,he,rfl⟩:=Qm.1 hv;exact hf e he
      have aEd:(parts.map fun(i,x)=>(i,act.eval x))=((((parts.toList.map (·.2)).map act.eval).zipIdx 0).map fun p=>(p.2,p.1)).toArray:=by
       apply Qx;simp only[Array.toList_map,List.map_map];have aD6:∀j (h1:j<parts.toList.length),(parts.toList[j]).1=j:=by
        intro j h1;have:=congrArg (fun l=>l[j]?) hc.1;simp only[Wj,Km h1,Qh] at this;rw[List.getElem?_range or] at this;injection this
       apply Ws
       ·simp
       intro j h1 h2;simp only[List.getElem_map,List.getElem_zipIdx,Function.comp];have:=aD6 j (by simpa using h1);simp only[Qa];rw[this]
      rcases hR with hR|hR
      ·obtain⟨cv,K',q1,q2,q3,q4,q5⟩:=jz (P:=P) hr aAJ (vs:=ls.map (aK.ev sl)) (cvs:=(parts.toList.map (·.2)).map act.eval) hu hi hz hsz (by simp only[Qb];simpa using a1) (fun i hi=>a2 i (by simpa using hi)) hfv (by rw[hcl];exact hc.2);refine⟨_,cv,K',_,_,?_, .inl rfl,q2,q3,q4,q5,hR⟩;simp only[execOp,hop,aEd,Kv];rw[hcl] at q1;rw[q1];rfl
      obtain⟨cv,K',q1,q2,q3,q4,q5⟩:=xJ (P:=P) hr aAJ (vs:=ls.map (aK.ev sl)) (cvs:=(parts.toList.map (·.2)).map act.eval) hu hi hz hsz (by simp only[Qb];simpa using a1) (fun i hi=>a2 i (by simpa using hi)) hfv (by rw[hcl];exact hc.2);rw[Qb] at q4;refine⟨_,cv,K',_,_,?_, .inl rfl,q2,q3,q4,q5,hR⟩;simp only[execOp,hop,aEd,Kv];rw[hcl] at q1;rw[q1];rfl
     simp at hl
    simp at hl
   simp at hl
  simp at hl
 case h_4 t x v hop=>
  obtain⟨k,hk,hl⟩:=Kd.1 hl;obtain⟨lx,hx,hl⟩:=Kd.1 hl;obtain⟨lv,hv,rfl⟩:=Kg.1 hl;have vx:=aG hx hs;simp only[LOp.sem] at aAB;split at aAB
  ·rename_i n k' i oo he;split at aAB
   ·rename_i k2 es hn;obtain⟨rfl,hi,hp,hf,hR⟩:=aAB;rw[he] at vx;generalize hcx:act.eval x=cx at vx;cases vx with
    |ptr _ _ _ _ aBt=>
     obtain⟨K',q1,q2,q3,q4⟩:=pk (P:=P) hr hk hn hi hp (aG hv hs) hf;refine⟨.skip,Kj,K',Ka,_,?_, .inr ⟨rfl,rfl⟩,q2,fun n hn=> .inl (q3 n hn), .undef K',q4,hR⟩;simp only[execOp,hop,hcx,Kv,q1,Ks,KE]
   exact aAB.elim
  exact aAB.elim
 case h_5 args ts hop=>
  split at hl
  ·rename_i x y t t' hxs hts;have ha:args=#[x,y]:=by apply Qx;simpa using hxs
   have ht:ts=#[t,t']:=by apply Qx;simpa using hts
   subst ha ht;split at hl
   ·rename_i htt;subst htt;split at hl
    ·rename_i e hu;split at hl
     ·rename_i i hi;split at hl
      ·rename_i z hz;obtain⟨k,hk,hl⟩:=Kd.1 hl;split at hl
       ·rename_i hc;obtain⟨lx,hx,hl⟩:=Kd.1 hl;obtain⟨ly,hy,rfl⟩:=Kg.1 hl;have vx:=aG hx hs;have vy:=aG hy hs;simp only[LOp.sem] at aAB;split at aAB
        ·rename_i ky ys hey;obtain⟨rfl,aAB⟩:=aAB;have sy:=pU hr vy hey;obtain⟨i',d,hi',hd,hsz,_⟩:=fS hk;rw[hi] at hi';injection hi' with hi';subst hi';split at aAB
         ·rename_i kx own xs hex;obtain⟨rfl,hb,aAB⟩:=aAB;rw[hex] at vx;have hm:xs.length+ys.length≤9223372036854775807:=by
           have:=KR (xs.length+ys.length) hc.2.2;omega
          rcases aAB with⟨hok,hR⟩|⟨rfl,rfl,hne,hR⟩
          ·obtain⟨cv,K',q1,q2,q3,q4,q5⟩:=j1 (P:=P) (ty:=o.type) hr aAJ hu hi hz hsz hc.1 hc.2.1 vx sy (by rintro rfl;exact hok) (by rintro n rfl;exact hok) hb hm;refine⟨_,cv,K',_,_,?_, .inl rfl,q2,q3,q4,q5,hR⟩;simp[execOp,hop,resolve,invoke,builtin,q1]
          obtain⟨cv,K',q1,q2,q3,q4,q5⟩:=gB (P:=P) (ty:=o.type) (xs:=[]) hr aAJ hu hi hz hsz hc.1 hc.2.1 vx sy hne (.inl ⟨rfl,rfl⟩) hb hm;refine⟨_,cv,K',_,_,?_, .inl rfl,q2,q3,q4,q5,by simpa using hR⟩;simp[execOp,hop,resolve,invoke,builtin,q1]
         ·rename_i n kx off len hex;split at aAB
          ·rename_i kb es hn;obtain⟨rfl,aAB⟩:=aAB;rw[hex] at vx;rcases aAB with⟨rfl,hR⟩|⟨rfl,rfl,hlen,hne,hb,hR⟩
           ·have aAe:=jf (P:=P) (ty:=o.type) hu hi vx sy;refine⟨_,_,K,_,_,?_, .inl rfl, .refl K,fun n hn=> .inl hn,vx,hr,hR⟩;simp[execOp,hop,resolve,invoke,builtin,aAe]
           have hm:len+ys.length≤9223372036854775807:=by
            have:=KR (len+ys.length) hc.2.2;omega
           have htl:(es.take len).length=len:=by simp;omega
           have hn':(h.set n (.arr kb (es.take len))) n=some (.arr kb (es.take len)):=by simp[Kb]
           have hr':Rel K (h.set n (.arr kb (es.take len))):=hr.aE9 hn len hlen;obtain⟨cv,K',q1,q2,q3,q4,q5⟩:=gB (P:=P) (ty:=o.type) (xs:=es.take len) hr' aAJ hu hi hz hsz hc.1 hc.2.1 vx sy hne (.inr ⟨n,by rw[htl],hn'⟩) (by rw[htl];exact hb) (by rw[htl];exact hm);have aD8:(h.set n (.arr kb (es.take len))).del n=h.del n:=by
            funext x;unfold Kb Kk;by_cases e:x=n<;>simp[e]
           rw[htl] at q4;simp only[aD8] at q5;refine⟨_,cv,K',_,_,?_, .inl rfl,q2,q3,q4,q5,hR⟩;simp[execOp,hop,resolve,invoke,builtin,q1]
          exact aAB.elim
         exact aAB.elim
        exact aAB.elim
       simp at hl
      simp at hl
     simp at hl
    simp at hl
   split at hl
   ·rename_i e kn hu hun;split at hl
    ·rename_i i hi;split at hl
     ·rename_i z hz;obtain⟨k,hk,hl⟩:=Kd.1 hl;obtain⟨zv,hzv,hl⟩:=Kd.1 hl;split at hl
      ·rename_i hc;obtain⟨lx,hx,hl⟩:=Kd.1 hl;obtain⟨ly,hy,rfl⟩:=Kg.1 hl;have vx:=aG hx hs;have vy:=aG hy hs;obtain⟨i',d,hi',hd,hsz,_⟩:=fS hk;rw[hi] at hi';injection hi' with hi';subst hi';simp only[LOp.sem] at aAB;split at aAB
       ·rename_i k' ky m hex hey;obtain⟨rfl,h0,hb,hR⟩:=aAB;rw[hex] at vx;rw[hey] at vy;generalize hcx:act.eval x=cx at vx;generalize hcy:act.eval y=cy at vy;cases vy;cases vx with
        |slnil=>
         obtain⟨cv,K',q1,q2,q3,q4,q5⟩:=xy (P:=P) hr aAJ hu hun hi hz hsz hc.2.1 hc.2.2 (dU hzv K) hc.1 o.type ky h0 hb;refine⟨_,cv,K',_,_,?_, .inl rfl,q2,q3,q4,q5,hR⟩;simp[execOp,hop,resolve,invoke,builtin,hcx,hcy,q1]
        |sl _ _ _ b off cap f' hb' hfit' hcell hst hv hcap hnil hfull htok=>exact absurd rfl hnil
       exact aAB.elim
      simp at hl
     simp at hl
    simp at hl
   simp at hl
  simp at hl
 case h_6 f args ts hop=>
  obtain⟨ls,hls,rfl⟩:=Kg.1 hl;exact aAB.elim
 case h_7 n args ts hop=>
  obtain⟨ls,hls,rfl⟩:=Kg.1 hl;exact aAB.elim
 case h_8 args ts hop=>
  split at hl
  ·rename_i x t hxs hts;have ha:args=#[x]:=by apply Qx;simpa using hxs
   have ht:ts=#[t]:=by apply Qx;simpa using hts
   subst ha ht;split at hl
   ·rename_i e hu;split at hl
    ·rename_i i hi;split at hl
     ·rename_i z hz;obtain⟨k,hk,hl⟩:=Kd.1 hl;obtain⟨zv,hzv,hl⟩:=Kd.1 hl;split at hl
      ·rename_i hc;obtain⟨lx,hx,rfl⟩:=Kg.1 hl;have vx:=aG hx hs;simp only[LOp.sem] at aAB;split at aAB
       ·rename_i n k' off ln hex;split at aAB
        ·rename_i kb es hn;obtain⟨rfl,rfl,hle,hR⟩:=aAB;rw[hex] at vx;obtain⟨K',q1,q2,q3,q4⟩:=xI (P:=P) hr hn hle vx hu hi hz (dU hzv K) hc o.type;refine⟨_,_,K',_,_,?_, .inl rfl,q2,fun n hn=> .inl (q3 n hn), .undef K',q4,hR⟩;simp[execOp,hop,resolve,invoke,builtin,q1];rfl
        exact aAB.elim
       ·rename_i k' own hex;rw[hex] at vx;generalize hcx:act.eval x=cx at vx;have aAe:(Qk #[t] o.type #[cx]).run P K.w= .ok (.tuple #[]) K.w:=by
         cases vx<;>simp[Qk,run_underlying hu]
        refine⟨_,_,K,_,_,?_, .inl rfl, .refl K,fun n hn=> .inl hn, .undef K,hr,aAB⟩;simp[execOp,hop,resolve,invoke,builtin,hcx,aAe];rfl
       exact aAB.elim
      simp at hl
     simp at hl
    simp at hl
   simp at hl
  simp at hl
 case h_9 t x c hop=>
  split at hl
  ·rename_i aPN;split at hl
   ·rename_i e hu;split at hl
    ·rename_i i hi;split at hl
     ·rename_i z hz;obtain⟨k,hk,hl⟩:=Kd.1 hl;obtain⟨zv,hzv,hl⟩:=Kd.1 hl;split at hl
      ·rename_i hc;obtain⟨lx,hx,rfl⟩:=Kg.1 hl;have vx:=aG hx hs;obtain⟨i',d,hi',hd,hsz,_⟩:=fS hk;rw[hi] at hi';injection hi' with hi';subst hi';simp only[LOp.sem] at aAB;split at aAB
       ·rename_i km m hex;obtain⟨h0,hb,hR⟩:=aAB;rw[hex] at vx;generalize hcx:act.eval c=cx at vx;cases vx;by_cases aA7:dt x c=true
        ·have:=B4 aA7;subst this;rw[if_pos aA7,Ho (Ev hc.1),Hn (Ev hc.1)] at hR;rcases hR with hR|hR
         ·obtain⟨cv,K',q1,q2,q3,q4,q5⟩:=ew (P:=P) hr aAJ hu hi hz hsz hc.2 (dU hzv K) hc.1 km km h0 hb;refine⟨_,cv,K',_,_,?_, .inl rfl,q2,q3,q4,q5,hR⟩;simp[execOp,hop,hcx,q1]
         obtain⟨cv,K',q1,q2,q3,q4,q5⟩:=eu (P:=P) hr aAJ hu hi hz hsz hc.2 (dU hzv K) hc.1 km km h0 hb;refine⟨_,cv,K',_,_,?_, .inl rfl,q2,q3,q4,q5,hR⟩;simp[execOp,hop,hcx,q1]
        rw[if_neg aA7] at hR;obtain⟨k0,rfl⟩:=BH (x:=x) (by simpa [aA7] using aPN);have hez:act.eval (.const (.int k0 0))= .int k0 0:=rfl;rcases hR with hR|hR
        ·obtain⟨cv,K',q1,q2,q3,q4,q5⟩:=fa (P:=P) hr aAJ hu hi hz hsz hc.2 (dU hzv K) hc.1 k0 km h0 hb;refine⟨_,cv,K',_,_,?_, .inl rfl,q2,q3,q4,q5,hR⟩;simp[execOp,hop,hez,hcx,q1]
        obtain⟨cv,K',q1,q2,q3,q4,q5⟩:=ez (P:=P) hr aAJ hu hi hz hsz hc.2 (dU hzv K) hc.1 k0 km h0 hb;refine⟨_,cv,K',_,_,?_, .inl rfl,q2,q3,q4,q5,hR⟩;simp[execOp,hop,hez,hcx,q1]
       exact aAB.elim
      simp at hl
     simp at hl
    simp at hl
   simp at hl
  simp at hl
 case h_10=>
  split at hl
  ·rename_i m hm;injection hl with hl;subst hl;exact Ck hm hs hr aAJ aAB
  obtain⟨lv,aCM,rfl⟩:=Kg.1 hl;have aFH:lv.sem sl h (fun v=>R v h):=aAB;exact(rR aCM hs hr aFH).toM hr
def LOp.kind:LOp→Nat
 | .val _=>0
 | .call _ _=>1
 | .callv _ _=>2
 | .callw _ _ _=>4
 |_=>3
theorem mF{P:Program}{o:Oper}{l:LOp}(hl:jX P o=some l):
 (∃x,wJ P o=some x∧l= .val x)∨(∃f args ts ls,o.op= .call {callee:= .value (.func f),args:=args,argTypes:=ts}∧eJ P ts.toList args.toList=some ls∧l= .call f ls)∨
 (∃n args ts ls,o.op= .call {callee:= .value (.tmp n),args:=args,argTypes:=ts}∧eJ P ts.toList args.toList=some ls∧l= .callv (.slot n) ls)∨l.kind=3:=by
 unfold jX at hl;split at hl;case h_1=>
  obtain⟨k,hk,hl⟩:=Kd.1 hl;obtain⟨lx,hx,rfl⟩:=Kg.1 hl;exact .inr (.inr (.inr rfl))
 case h_2=>
  obtain⟨k,hk,hl⟩:=Kd.1 hl;obtain⟨z,hz,hl⟩:=Kd.1 hl;obtain⟨v,hv,rfl⟩:=Kg.1 hl;exact .inr (.inr (.inr rfl))
 case h_3=>
  split at hl
  ·split at hl
   ·split at hl
    ·obtain⟨k,hk,hl⟩:=Kd.1 hl;split at hl
     ·obtain⟨ls,hls,rfl⟩:=Kg.1 hl;exact .inr (.inr (.inr rfl))
     simp at hl
    simp at hl
   simp at hl
  simp at hl
 case h_4=>
  obtain⟨k,hk,hl⟩:=Kd.1 hl;obtain⟨lx,hx,hl⟩:=Kd.1 hl;obtain⟨lv,hv,rfl⟩:=Kg.1 hl;exact .inr (.inr (.inr rfl))
 case h_5=>
  split at hl
  ·split at hl
   ·split at hl
    ·split at hl
     ·split at hl
      ·obtain⟨k,hk,hl⟩:=Kd.1 hl;split at hl
       ·obtain⟨lx,hx,hl⟩:=Kd.1 hl;obtain⟨ly,hy,rfl⟩:=Kg.1 hl;exact .inr (.inr (.inr rfl))
       simp at hl
      simp at hl
     simp at hl
    simp at hl
   split at hl
   ·split at hl
    ·split at hl
     ·obtain⟨k,hk,hl⟩:=Kd.1 hl;obtain⟨zv,hzv,hl⟩:=Kd.1 hl;split at hl
      ·obtain⟨lx,hx,hl⟩:=Kd.1 hl;obtain⟨ly,hy,rfl⟩:=Kg.1 hl;exact .inr (.inr (.inr rfl))
      simp at hl
     simp at hl
    simp at hl
   simp at hl
  simp at hl
 case h_6 f args ts hop=>
  obtain⟨ls,hls,rfl⟩:=Kg.1 hl;exact .inr (.inl ⟨f,args,ts,ls,hop,hls,rfl⟩)
 case h_7 n args ts hop=>
  obtain⟨ls,hls,rfl⟩:=Kg.1 hl;exact .inr (.inr (.inl ⟨n,args,ts,ls,hop,hls,rfl⟩))
 case h_8=>
  split at hl
  ·split at hl
   ·split at hl
    ·split at hl
     ·obtain⟨k,hk,hl⟩:=Kd.1 hl;obtain⟨zv,hzv,hl⟩:=Kd.1 hl;split at hl
      ·obtain⟨lx,hx,rfl⟩:=Kg.1 hl;exact .inr (.inr (.inr rfl))
      simp at hl
     simp at hl
    simp at hl
   simp at hl
  simp at hl
 case h_9=>
  split at hl
  ·split at hl
   ·split at hl
    ·split at hl
     ·obtain⟨k,hk,hl⟩:=Kd.1 hl;obtain⟨zv,hzv,hl⟩:=Kd.1 hl;split at hl
      ·obtain⟨lx,hx,rfl⟩:=Kg.1 hl;exact .inr (.inr (.inr rfl))
      simp at hl
     simp at hl
    simp at hl
   simp at hl
  simp at hl
 case h_10=>
  split at hl
  ·injection hl with hl;subst hl;exact .inr (.inr (.inr rfl))
  obtain⟨lv,h,rfl⟩:=Kg.1 hl;exact .inl ⟨lv,h,rfl⟩
theorem nH{P:Program}{o:Oper}{act:Act}{K:Ker}{sl:List V}{h:Hp}{nx:Nat}{R:V→Hp→Nat→Prop}{l:LOp}(hl:jX P o=some l)(hs:SlV K sl act)(hr:Rel K h)(hlv:∀n,K.live n→n<nx){f:FuncId}{args:List V}
 (hc:(∃la,l= .call f la∧args=la.map (aK.ev sl))∨∃x la first cap,l= .callv x la∧x.ev sl= .fn (.func f) first cap∧args=first++la.map (aK.ev sl)++cap) (aAB:aR P f args h nx R):tE P o act K nx R:=by
 rcases mF hl with⟨x,_,rfl⟩|⟨f',aAZ,ts,ls,hop,hls,rfl⟩|⟨n,aAZ,ts,ls,hop,hls,rfl⟩|hk
 ·rcases hc with⟨la,e,_⟩|⟨x,la,first,cap,e,_⟩<;>cases e
 ·rcases hc with⟨la,e,rfl⟩|⟨x,la,first,cap,e,_⟩
  ·injection e with e1 e2;subst e1 e2;have hv:=oI hs hls;refine aR.toC ?_ hlv hr hv aAB;have he:=jR aAB.1 (aAZ.map act.eval) K.w;simpa [execOp,hop,resolve,invoke,Deferred.ofValue,Act.eval] using he
  cases e
 ·rcases hc with⟨la,e,_⟩|⟨x,la,first,cap,e,he,rfl⟩
  ·cases e
  injection e with e1 e2;subst e1 e2;have hv:=oI hs hls;have vx:=hs.2 n;simp only[aK.ev] at he;rw[he] at vx;generalize hcx:act.tmps.getD n Kj=cx at vx;cases vx with
  |fn _ _ _ cf cc h1 h2 v1 v2=>
   have hv2:VRs K (first++ls.map (aK.ev sl)++cap) (cf++aAZ.map act.eval++cc):=((show VRs K first cf from⟨h1,v1⟩).append hv).append ⟨h2,v2⟩;refine aR.toC ?_ hlv hr hv2 aAB;have he:=jR aAB.1 (cf++aAZ.map act.eval++cc) K.w;have hev:act.eval (.tmp n)= .func (.func f) cf cc:=hcx;simp only[execOp,hop,resolve,hev,Deferred.ofValue,Kv,KE,Ks,invoke];exact he
 rcases hc with⟨la,rfl,_⟩|⟨x,la,first,cap,rfl,_⟩<;>cases hk
theorem zz{P:Program}{o:Oper}{act:Act}{K:Ker}{sl:List V}{h:Hp}{nx:Nat}{R:V→Hp→Nat→Prop}{x:aK}{la:List aK}(hl:jX P o=some (.callv x la))(hs:SlV K sl act)(hr:Rel K h)(hlv:∀n,K.live n→n<nx){n:Nat}
 (hx:x.ev sl= .yld n) (aAB:dX P n (la.map (aK.ev sl)) h nx R):tE P o act K nx R:=by
 rcases mF hl with⟨y,_,e⟩|⟨f',aAZ,ts,ls,hop,hls,e⟩|⟨t,aAZ,ts,ls,hop,hls,e⟩|hk
 ·cases e
 ·cases e
 ·injection e with e1 e2;subst e1 e2;have hv:=oI hs hls;have vx:=hs.2 t;simp only[aK.ev] at hx;rw[hx] at vx;generalize hcx:act.tmps.getD t Kj=cx at vx;cases vx with
  |yld _ hn=>
   intro rd m next Q aAW
   obtain⟨fn,tmps,assign,body,q1,q2⟩:=aAB (m-1) K (aAZ.map act.eval) hlv hn hr hv;have hev:act.eval (.tmp t)= .func (.yield (K.mu n)) #[] #[]:=hcx;have aAe:(execOp act.eval o).run P K.w= .ok (.round (K.mu n) fn tmps assign body) K.w:=by
    simp only[execOp,hop,resolve,hev,Deferred.ofValue,Kv,KE,Ks,invoke];simpa using q1
   refine⟨fun _ _=>trivial,?_⟩;rw[sP aAe Zm rd];refine⟨(by intro h;cases h),?_⟩;refine RoundIn.mono (show RoundIn (FR rd) (m-1) P (K.mu n) fn tmps assign body K.w _ from q2) ?_;rintro e w' ⟨K',v,cv,h',nx',rfl,rfl,a,b,cc,d,e',g⟩;exact aAW K' v cv h' nx' a b cc d e' g
 cases hk
theorem Cz{P:Program}{o:Oper}{act:Act}{K:Ker}{sl:List V}{h:Hp}{nx:Nat}{R:V→Hp→Nat→Prop}{l:LOp}(hl:jX P o=some l)(hs:SlV K sl act)(hr:Rel K h)(hlv:∀n,K.live n→n<nx)
 (aAB:l.run P sl h nx R):tE P o act K nx R:=by
 have aAJ:¬K.live nx:=fun hn=>Nat.lt_irrefl _ (hlv nx hn);cases l with
 |call f args=>exact nH hl hs hr hlv (.inl ⟨args,rfl,rfl⟩) aAB
 |callv x args=>
  simp only[LOp.run] at aAB;split at aAB
  ·rename_i f first cap he
   exact nH hl hs hr hlv (.inr ⟨x,args,first,cap,rfl,he,rfl⟩) aAB
  ·rename_i n he;exact zz hl hs hr hlv he aAB
  exact aAB.elim
 |val x=>
  rcases mF hl with⟨y,hy,e⟩|⟨f',aAZ,ts,ls,hop,hls,e⟩|⟨n,aAZ,ts,ls,hop,hls,e⟩|hk
  ·injection e with e;subst e;have aFH:x.sem sl h (fun v=>R v h nx):=aAB;exact(rR hy hs hr aFH).toC hlv hr
  ·cases e
  ·cases e
  cases hk
 |box k x=>exact eV.toC hlv (cC hl hs hr aAJ aAB)
 |bslice k es=>exact eV.toC hlv (cC hl hs hr aAJ aAB)
 |append k b x y=>exact eV.toC hlv (cC hl hs hr aAJ aAB)
 |store t x v=>exact eV.toC hlv (cC hl hs hr aAJ aAB)
 |mkz k b x z=>exact eV.toC hlv (cC hl hs hr aAJ aAB)
 |appz k b x y z=>exact eV.toC hlv (cC hl hs hr aAJ aAB)
 |clear k x z=>exact eV.toC hlv (cC hl hs hr aAJ aAB)
 |callw f args fl=>exact aAB.elim
 |mp m=>exact eV.toC hlv (cC hl hs hr aAJ aAB)
inductive bJ where
 |normal|exit (id:Nat)|ret
 deriving Inhabited
inductive aT where
 |skip
 |ops (l:List aA)
 |draw (n:Nat) (hd:List (aA×List Nat)) (tl:List aA)
 |seq (a b:aT)
 |cond (c:aK) (a b:aT)
 |block (id:Nat) (c:aT)
 |loop (c:aT)
 |exit (id:Nat)
 |ret
 |range (g:aK) (ps:List Nat) (as body:aT)
 deriving Inhabited
def sH(B:Nat)(w:World)(ds:List Deferred):Prop:=
 ∃Ds:List Nat,Ds.Nodup∧ds=Ds.map (fun D=>{target:= .collected D,args:=#[]})∧∀D∈Ds,B≤D∧gM w D
theorem gM.lt{w:World}{D:Nat}(h:gM w D):D<w.heap.size:=by
 rcases Wg D w.heap.size with hlt|hge
 ·exact hlt
 unfold gM at h;rw[QS hge] at h;cases h
theorem gM.kept{F:Nat→Prop}{w w':World}(k:pN F w w'){D:Nat}(h:gM w D):gM w' D:=(k.block D h.lt (.inr h)).trans h
theorem sH.nil(B:Nat)(w:World):sH B w []:=⟨[], .nil,rfl,fun _ h=>by cases h⟩
theorem sH.kept{F:Nat→Prop}{B:Nat}{w w':World}{ds:List Deferred}(h:sH B w ds)(k:pN F w w'):sH B w' ds:=by
 obtain⟨Ds,h1,h2,h3⟩:=h;exact⟨Ds,h1,h2,fun D hD=>⟨(h3 D hD).1,(h3 D hD).2.kept k⟩⟩
structure mH(K0 K:Ker)(nx0:Nat)(s:St)(a:Act):Prop where
 le:K0.le K
 aAD:fE K s.sl a
 rel:Rel K s.h
 live:∀n,K.live n→n<s.nx∧(K0.live n∨nx0≤n)
 nx:nx0≤s.nx
 defers:sH K0.w.heap.size K.w a.defers
def bJ.up:bJ→Exit
 | .normal=> .normal
 | .exit id=> .exit id
 | .ret=> .ret
def AP(K0:Ker)(nx0:Nat)(Q:bJ→St→Prop):Exit→Act→World→Prop:=
 fun e a w=>∃K s le,K.w=w∧mH K0 K nx0 s a∧e=bJ.up le∧Q le s
theorem fE.put{K:Ker}{sl:List V}{a:Act}(hs:fE K sl a){v:V}{cv:Value}(hv:VR K v cv)(dst:Option Nat):fE K (bL sl dst v) (a.put dst cv):=by
 cases dst with
 |none=>exact hs
 |some d=>
  refine⟨by simp[bL,Act.put,hs.1],fun t=>?_⟩;have h:=hs.2 t;simp only[bL,Act.put,Kc,Ke] at h⊢;by_cases e:d=t
  ·subst e;by_cases hd:d<sl.length
   ·rw[Qg hd,Qw];have:d<a.tmps.size:=by rw[←hs.1];exact hd
    simp[this];exact hv
   rw[QA (by simp;omega),QS (by simp;have:=hs.1;omega)];exact .undef K
  rw[Qp e,Qy e];exact h
def yS(ops:Array Oper)(o:Oper):Option (Option (Nat×Bool)):=
 match o.guard with
 |none=>some none
 |some (j,want)=>match (ops[j]?).bind (·.dst) with
  |some t=>some (some (t,want))
  |none=>none
def sU(P:Program)(ops:Array Oper)(o:Oper):Option aA:=
 (yS ops o).bind fun g=>(jX P o).map fun l=>{dst:=o.dst,g:=g,op:=l}
def cU(P:Program)(ops:Array Oper):List Oper→Option (List aA)
 | []=>some []
 |o::r=>(sU P ops o).bind fun l=>(cU P ops r).map (l:: ·)
theorem uZ{P:Program}{ops:Array Oper}{i:Nat}{o:Oper}(ho:ops[i]?=some o){lo:aA}(hl:sU P ops o=some lo){K0 K:Ker}{nx0:Nat}{s:St}{a:Act}(hr:mH K0 K nx0 s a){Kn:Act→World→Prop}{Q:Exit→Act→World→Prop}(Qn:St→Prop)
 (hK:∀K' s' a',mH K0 K' nx0 s' a'→Qn s'→Kn a' K'.w)
 (aAB:match lo.g with
   |none=>lo.op.run P s.sl s.h s.nx fun v h' nx'=>Qn ⟨bL s.sl lo.dst v,h',nx'⟩
   |some (t,want)=>match s.sl.getD t Ka with
    | .bool b=>if b=want then lo.op.run P s.sl s.h s.nx fun v h' nx'=>Qn ⟨bL s.sl lo.dst v,h',nx'⟩ else Qn ⟨bL s.sl lo.dst Ka,s.h,s.nx⟩
    | .tup _=>Qn ⟨bL s.sl lo.dst Ka,s.h,s.nx⟩
    |_=>False) {rd:Option Nat} {m:Nat}:wpOpIn (FR rd) m P ops Q i Kn a K.w:=by
 obtain⟨g,hg,hl⟩:=Kd.1 hl;obtain⟨l,hlo,rfl⟩:=Kg.1 hl;have go:l.run P s.sl s.h s.nx (fun v h' nx'=>Qn ⟨bL s.sl o.dst v,h',nx'⟩)→o.wpIn (FR rd) m P a K.w Kn Q:=by
  intro h;refine Cz hlo ⟨hr.rel.size,hr.aAD.2⟩ hr.rel (fun n hn=>(hr.live n hn).1) h rd m Kn Q ?_;intro K' v cv h' nx' hle hv hrel hlv hnx hR;refine hK K' ⟨bL s.sl o.dst v,h',nx'⟩ (a.put o.dst cv) ⟨hr.le.trans hle,(hr.aAD.mono hle).put hv _,hrel,?_,WH hr.nx hnx,?_⟩ hR
  ·intro n hn;obtain⟨h1,h2⟩:=hlv n hn;refine⟨h1,?_⟩;rcases h2 with h2|h2
   ·exact(hr.live n h2).2
   exact .inr (WH hr.nx h2)
  have hp:(a.put o.dst cv).defers=a.defers:=by cases hd:o.dst<;>simp[Act.put]
  show sH _ _ (a.put o.dst cv).defers;rw[hp];exact hr.defers.kept hle.below
 have skip:Qn ⟨bL s.sl o.dst Ka,s.h,s.nx⟩→Kn (a.put o.dst Kj) K.w:=by
  intro h;refine hK K ⟨bL s.sl o.dst Ka,s.h,s.nx⟩ (a.put o.dst Kj) ⟨hr.le,hr.aAD.put (.undef K) _,hr.rel,hr.live,hr.nx,?_⟩ h;have hp:(a.put o.dst Kj).defers=a.defers:=by cases hd:o.dst<;>simp[Act.put]
  show sH _ _ (a.put o.dst Kj).defers;rw[hp];exact hr.defers
 unfold wpOpIn;simp only[ho];unfold yS at hg;cases hgd:o.guard with
 |none=>
  rw[hgd] at hg;injection hg with hg;subst hg;rw[if_pos (by simp[Region.wanted,hgd])];exact(go aAB)
 |some p=>
  obtain⟨j,want⟩:=p;rw[hgd] at hg;simp only at hg;cases ht:(ops[j]?).bind (·.dst) with
  |none=>simp[ht] at hg
  |some t=>
   rw[ht] at hg;injection hg with hg;subst hg;simp only at aAB;have hvr:=hr.aAD.2 t;have hy:yielded ops a.tmps j=match a.tmps.getD t Kj with| .bool b=>some b|_=>none:=by
    unfold yielded;rw[ht];simp only[Wt,Ke];cases a.tmps[t]? with
    |none=>rfl
    |some x=>cases x<;>rfl
   by_cases hw:Region.wanted o (yielded ops a.tmps)=true
   ·rw[if_pos hw];simp only[Region.wanted,hgd,hy] at hw;split at aAB
    ·rename_i b hb;rw[hb] at hvr;generalize a.tmps.getD t Kj=cv at hvr hw;cases hvr;simp at hw;rw[if_pos hw] at aAB;exact(go aAB)
    ·rename_i vs hb;exfalso;rw[hb] at hvr;generalize a.tmps.getD t Kj=cv at hvr hw;cases hvr;simp at hw
    exact aAB.elim
   rw[if_neg hw];simp only[Region.wanted,hgd,hy] at hw;split at aAB
   ·rename_i b hb;rw[hb] at hvr;generalize a.tmps.getD t Kj=cv at hvr hw;cases hvr;simp at hw;rw[if_neg (by simpa using hw)] at aAB;exact⟨fun _ _=>trivial,skip aAB⟩
   ·exact⟨fun _ _=>trivial,skip aAB⟩
   exact aAB.elim
theorem fk{P:Program}{ops:Array Oper}{K0:Ker}{nx0:Nat}{Q:Exit→Act→World→Prop}{Qs:St→Prop}(hQ:∀K s a,mH K0 K nx0 s a→Qs s→Q .normal a K.w){rd:Option Nat}{m:Nat}:
 ∀(l:List Oper) (ls:List aA) (is:List Nat),cU P ops l=some ls→is.map (ops[·]?)=l.map some→∀(K:Ker) (s:St) (a:Act),mH K0 K nx0 s a→aY P ls Qs s→wpOpsIn (FR rd) m P ops Q is a K.w
 | [],ls,is,hl,hi,K,s,a,hr,h=>by
  simp[cU] at hl;subst hl;have:is=[]:=by simpa using hi
  subst this;exact hQ K s a hr h
 |o::l,ls,is,hl,hi,K,s,a,hr,h=>by
  unfold cU at hl;obtain⟨lo,h1,hl⟩:=Kd.1 hl;obtain⟨lr,h2,rfl⟩:=Kg.1 hl;cases is with
  |nil=>simp at hi
  |cons i is=>
   simp only[WA,List.cons.injEq] at hi;rw[wpOpsIn_cons];refine uZ hi.1 h1 hr (aY P lr Qs) (fun K' s' a' hr' hq=>fk hQ l lr is h2 hi.2 K' s' a' hr' hq) ?_;unfold aY at h;exact h
def Hp.has(h h':Hp):Prop:=∀n b,h n=some b→b.mem=true→h' n=some b
def aM(P:Program)(f:FuncId)(args:List V)(h:Hp)(v:V):Prop:=
 ∀h' nx,h.has h'→aR P f args h' nx fun v' h'' nx'=>v'=v∧h''=h'∧nx'=nx
def jm(P:Program)(f:FuncId)(args:List V)(h:Hp)(k:Sh)(es:List V):Prop:=
 (∀L,bM L es)∧∀h' nx,h.has h'→aR P f args h' nx fun v' h'' nx'=>v'= .sl k (.tok nx) es∧h''=h'.set nx .tip∧nx'=nx+1
structure Con where
 n:Nat
 old:Blk
 new:Option Blk
def Hp.aBY(h:Hp):Option Con→Hp
 |none=>h
 |some c=>match c.new with
  |some b=>h.set c.n b
  |none=>h.del c.n
def Ik(v:Nat→V):Prop:=∀(K:Ker) (a a':Nat) (cv:Value) (L:Nat→Prop),¬K.live a'→L a'→VR K (v a) cv→VR ((K.aAH a' (K.mu a) (K.imm (K.mu a))).only L) (v a') cv
def HM(P:Program)(f:FuncId)(args:List V)(h:Hp)(c:Option Con)(v:Nat→V)(k:Sh)(es:List V):Prop:=
 Ik v∧(∀L,bM L es)∧(∀c',c=some c'→c'.new=none∧(∃k es,c'.old= .arr k es)∧h c'.n=some c'.old)∧
  ∀h' nx,h.has h'→aR P f args h' nx fun v' h'' nx'=>v'=v nx∧h''=(h'.aBY c).set nx (.arr k es)∧nx'=nx+1
structure fC where
 v:V
 add:Option Blk
 con:Option Con
def qU:Hp→Nat→List (Option Blk)→Hp
 |h,_,[]=>h
 |h,a,none::r=>qU h (a+1) r
 |h,a,some b::r=>qU (h.set a b) (a+1) r
def lO:Hp→List (Option Con)→Hp
 |h,[]=>h
 |h,none::r=>lO h r
 |h,some c::r=>lO (h.del c.n) r
def bt:Hp→List (Option Con)→Hp
 |h,[]=>h
 |h,c::r=>bt (h.aBY c) r
def eK(n:Nat):List (Option Con)→Prop
 | []=>True
 |none::r=>eK n r
 |some c::r=>n≠c.n∧eK n r
theorem nT{n:Nat}:∀{cons:List (Option Con)},eK n cons↔∀c,some c∈cons→n≠c.n
 | []=>by simp[eK]
 |none::r=>by simp[eK,nT (cons:=r)]
 |some c::r=>by
  simp only[eK,nT (cons:=r),Wa,Option.some.injEq];exact⟨fun h c' hc=>hc.elim (fun e=>by rw[e];exact h.1) (h.2 c'),fun h=>⟨h c (.inl rfl),fun c' hc=>h c' (.inr hc)⟩⟩
theorem vF:∀{cons:List (Option Con)} {h:Hp} {m:Nat} {b:Blk},lO h cons m=some b→eK m cons∧h m=some b
 | [],h,m,b,e=>⟨trivial,e⟩
 |none::r,h,m,b,e=>vF (cons:=r) e
 |some c::r,h,m,b,e=>by
  obtain⟨h1,h2⟩:=vF (cons:=r) e;unfold Kk at h2;split at h2
  ·cases h2
  rename_i hne;exact⟨⟨hne,h1⟩,h2⟩
def LOp.aAd(P:Program)(sl:List V)(h0:Hp)(a:Nat)(R:fC→Prop):LOp→Prop
 | .val x=>x.sem sl h0 fun v=>R ⟨v,none,none⟩
 | .box k x=>(x.ev sl).fits k=true∧R ⟨.ptr a k 0 0,some (.arr k [x.ev sl]),none⟩
 | .bslice k es=>(∀e∈es,(e.ev sl).fits k=true)∧(R ⟨.sl k (.tok a) (es.map (aK.ev sl)),some .tip,none⟩∨R ⟨.rs a k 0 es.length,some (.arr k (es.map (aK.ev sl))),none⟩)
 | .append k bytes x y=>match x.ev sl,y.ev sl with
  | .sl kx own xs, .sl ky _ ys=>kx=k∧ky=k∧(xs.length+ys.length)*bytes≤140737488355328∧(match own with
   | .nil=>R ⟨.sl k (fB a .nil ys) (xs++ys),if ys.isEmpty then none else some .tip,none⟩
   | .full=>R ⟨.sl k (fB a .full ys) (xs++ys),if ys.isEmpty then none else some .tip,none⟩
   | .tok n=>R ⟨.sl k (.tok a) (xs++ys),some .tip,some ⟨n, .tip,none⟩⟩
   | .free=>False)
  |_,_=>False
 | .store t x v=>match x.ev sl with
  | .ptr n k i o=>∃es,i<es.length∧cA k t o∧(v.ev sl).fits t=true∧R ⟨Ka,none,some ⟨n, .arr k es,some (.arr k (es.set i (bZ t o (es.getD i Ka) (v.ev sl))))⟩⟩
  |_=>False
 | .call f args=>(∃v,aM P f (args.map (aK.ev sl)) h0 v∧R ⟨v,none,none⟩)∨(∃k es,jm P f (args.map (aK.ev sl)) h0 k es∧R ⟨.sl k (.tok a) es,some .tip,none⟩)∨
  ∃v k es,HM P f (args.map (aK.ev sl)) h0 none v k es∧R ⟨v a,some (.arr k es),none⟩
 | .callv x args=>match x.ev sl with
  | .fn (.func f) first cap=>(∃v,aM P f (first++args.map (aK.ev sl)++cap) h0 v∧R ⟨v,none,none⟩)∨∃k es,jm P f (first++args.map (aK.ev sl)++cap) h0 k es∧R ⟨.sl k (.tok a) es,some .tip,none⟩
  |_=>False
 | .mkz k bytes x z=>match x.ev sl with
  | .int _ m=>0≤m∧m.toNat*bytes≤140737488355328∧(R ⟨.rs a k 0 (mkN m.toNat z),some (.arr k (mkL m.toNat z)),none⟩∨R ⟨.sl k (.tok a) (mkL m.toNat z),some .tip,none⟩)
  |_=>False
 | .appz k bytes x y z=>match x.ev sl,y.ev sl with
  | .sl k' .nil [], .int _ m=>k'=k∧0<m∧m.toNat*bytes≤140737488355328∧R ⟨.rs a k 0 m.toNat,some (.arr k (Kw m.toNat z)),none⟩
  |_,_=>False
 | .clear _ _ _=>False
 | .mp .mk=>R ⟨.map a,some (.mp [] 0),none⟩
 | .mp _=>False
 | .callw f args fl=>(∃v,aM P f (args.map (aK.ev sl)) h0 v∧R ⟨v,none,none⟩)∨(∃k es,jm P f (args.map (aK.ev sl)) h0 k es∧R ⟨.sl k (.tok a) es,some .tip,none⟩)∨
  ∃c v k es,HM P f (args.map (aK.ev sl)) h0 c v k es∧(∀c',c=some c'→∀x∈fl,∀m k i o,x.ev sl= .ptr m k i o→m≠c'.n)∧R ⟨v a,some (.arr k es),c⟩
def sC(h0:Hp)(nx0:Nat)(aAF:List Nat)(aAK:List (Option Blk))(cons:List (Option Con))(n:Nat)(b:Blk):Prop:=
 eK n cons∧((n<nx0∧h0 n=some b)∨∃d∈aAF,n=nx0+d∧aAK.getD d none=some b)
def fQ(P:Program)(h0:Hp)(a:Nat)(o:aA)(sl:List V)(R:fC→Prop):Prop:=
 match o.g with
 |none=>o.op.aAd P sl h0 a R
 |some (t,want)=>match sl.getD t Ka with
  | .bool b=>if b=want then o.op.aAd P sl h0 a R else R ⟨Ka,none,none⟩
  | .tup _=>R ⟨Ka,none,none⟩
  |_=>False
def dJ(P:Program)(h0:Hp)(nx0:Nat):List (aA×List Nat)→List V→List (Option Blk)→List (Option Con)→(List V→List (Option Blk)→List (Option Con)→Prop)→Prop
 | [],sl,aAK,cons,Q=>Q sl aAK cons
 |(o,aAF)::r,sl,aAK,cons,Q=>
  fQ P (lO h0 cons) (nx0+aAK.length) o sl fun d=>(∀c,d.con=some c→sC h0 nx0 aAF aAK cons c.n c.old)∧dJ P h0 nx0 r (bL sl o.dst d.v) (aAK++[d.add]) (cons++[d.con]) Q
theorem aW.aCH{sl:List V}{h:Hp}{R:V→Prop}{l:aW}(hs:l.sem sl h R):∃v,l.sem sl h (·=v)∧R v:=by
 cases l<;>simp only[aW.sem] at hs⊢;case bin op x y=>
  revert hs;split
  ·rintro⟨a,b⟩;subst a;cases op<;>simp only[Da] at b⊢<;>first|exact⟨_,⟨trivial,rfl⟩,b⟩|exact⟨_,⟨trivial,b.1,rfl⟩,b.2⟩|exact b.elim
  ·intro b;cases op<;>simp only[B2] at b⊢<;>first|exact⟨_,rfl,b⟩|exact⟨_,⟨b.1,rfl⟩,b.2⟩|exact b.elim
  exact False.elim
 case load t x=>
  revert hs;split
  ·split
   ·rintro⟨a,b,c,d⟩;exact⟨_,⟨a,b,c,rfl⟩,d⟩
   exact False.elim
  ·rintro⟨b,c,d⟩;exact⟨_,⟨b,c,rfl⟩,d⟩
  exact False.elim
 case build z parts=>exact⟨_,⟨hs.1,rfl⟩,hs.2⟩
 case slc k x lo hi mx=>
  revert hs;split
  ·split
   ·rintro⟨a,b,c,d,e,f,g⟩;exact⟨_,⟨a,b,c,d,e,f,rfl⟩,g⟩
   exact False.elim
  ·split
   ·rintro⟨a,b,c,d,e⟩;exact⟨_,⟨a,b,c,d,rfl⟩,e⟩
   ·rintro⟨a,b,c,d,f,e⟩;exact⟨_,⟨a,b,c,d,f,rfl⟩,e⟩
   exact False.elim
  exact False.elim
 case slcs x lo hi=>
  revert hs;split
  ·split
   ·rintro⟨a,b,c,e⟩;exact⟨_,⟨a,b,c,rfl⟩,e⟩
   exact False.elim
  exact False.elim
 case pslc n k x hi=>
  revert hs;split
  ·split
   ·rintro⟨a,b,c,e⟩;exact⟨_,⟨a,b,c,rfl⟩,e⟩
   exact False.elim
  exact False.elim
 case mget kS ks z ok x i=>
  obtain⟨hf,hs⟩:=hs;revert hs;split
  ·exact fun h=>⟨_,⟨hf,rfl⟩,h⟩
  ·split
   ·split
    ·exact fun h=>⟨_,⟨hf,rfl⟩,h⟩
    exact False.elim
   exact False.elim
  exact False.elim
 case mlen x=>
  revert hs;split
  ·exact fun h=>⟨_,rfl,h⟩
  ·split
   ·exact fun h=>⟨_,rfl,h⟩
   exact False.elim
  exact False.elim
 all_goals
  first
   |exact⟨_,rfl,hs⟩
   |(revert hs;split<;>first|exact False.elim|exact fun h=>⟨_,rfl,h⟩|(rintro⟨a,b⟩;exact⟨_,⟨a,rfl⟩,b⟩)|(rintro⟨a,c,b⟩;exact⟨_,⟨a,c,rfl⟩,b⟩)|(rintro⟨a,c,d,b⟩;exact⟨_,⟨a,c,d,rfl⟩,b⟩))
theorem LOp.aCY{P:Program}{sl:List V}{h:Hp}{a:Nat}{R:fC→Prop}{l:LOp}(hs:l.aAd P sl h a R):∃d,l.aAd P sl h a (·=d)∧R d:=by
 cases l<;>simp only[LOp.aAd] at hs⊢;case val x=>
  obtain⟨v,h1,h2⟩:=aW.aCH hs;exact⟨_,aW.aAo (fun _ _ h _=>h) (fun v' hv=>by rw[hv]) h1,h2⟩
 case mp m=>
  cases m<;>first|exact⟨_,rfl,hs⟩|exact hs.elim
 case box k x=>exact⟨_,⟨hs.1,rfl⟩,hs.2⟩
 case bslice k es=>
  rcases hs with⟨h1,h2|h2⟩
  ·exact⟨_,⟨h1, .inl rfl⟩,h2⟩
  exact⟨_,⟨h1, .inr rfl⟩,h2⟩
 case append k bytes x y=>
  revert hs;split
  ·rename_i kx own xs ky aPG ys _ _;rintro⟨a,b,c,d⟩;cases own<;>simp only at d⊢<;>first|exact⟨_,⟨a,b,c,rfl⟩,d⟩|exact d.elim
  exact False.elim
 case store t x v=>
  revert hs;split
  ·rintro⟨es,a,b,c,d⟩;exact⟨_,⟨es,a,b,c,rfl⟩,d⟩
  exact False.elim
 case call f args=>
  rcases hs with⟨v,h1,h2⟩|⟨k,es,h1,h2⟩|⟨v,k,es,h1,h2⟩
  ·exact⟨_, .inl ⟨v,h1,rfl⟩,h2⟩
  ·exact⟨_, .inr (.inl ⟨k,es,h1,rfl⟩),h2⟩
  exact⟨_, .inr (.inr ⟨v,k,es,h1,rfl⟩),h2⟩
 case callv x args=>
  revert hs;split
  ·rintro(⟨v,h1,h2⟩|⟨k,es,h1,h2⟩)
   ·exact⟨_, .inl ⟨v,h1,rfl⟩,h2⟩
   exact⟨_, .inr ⟨k,es,h1,rfl⟩,h2⟩
  exact False.elim
 case mkz k bytes x z=>
  revert hs;split
  ·rintro⟨a,b,c|c⟩
   ·exact⟨_,⟨a,b, .inl rfl⟩,c⟩
   exact⟨_,⟨a,b, .inr rfl⟩,c⟩
  exact False.elim
 case appz k bytes x y z=>
  revert hs;split
  ·rintro⟨a,b,c,d⟩;exact⟨_,⟨a,b,c,rfl⟩,d⟩
  exact False.elim
 case callw f args fl=>
  rcases hs with⟨v,h1,h2⟩|⟨k,es,h1,h2⟩|⟨c,v,k,es,h1,h3,h2⟩
  ·exact⟨_, .inl ⟨v,h1,rfl⟩,h2⟩
  ·exact⟨_, .inr (.inl ⟨k,es,h1,rfl⟩),h2⟩
  exact⟨_, .inr (.inr ⟨c,v,k,es,h1,h3,rfl⟩),h2⟩
theorem LOp.aDO{P:Program}{sl:List V}{h0:Hp}{a:Nat}{R:fC→Prop}{d:fC}{op:LOp}(hx:op.aAd P sl h0 a (·=d))(hR:R d):op.aAd P sl h0 a R:=by
 cases op with
 |val x=>exact aW.aAo (R:=fun v=>(⟨v,none,none⟩:fC)=d) (R':=fun v=>R ⟨v,none,none⟩) (fun _ _ e _=>e) (fun v hv=>by rw[hv];exact hR) hx
 |mp m=>cases m<;>first|exact hx.elim|(have e:_=d:=hx;show R _;rw[e];exact hR)
 |box k x=>exact⟨hx.1,by rw[hx.2];exact hR⟩
 |bslice k es=>exact⟨hx.1,hx.2.imp (fun e=>by rw[e];exact hR) (fun e=>by rw[e];exact hR)⟩
 |append k b x y=>
  simp only[LOp.aAd] at hx⊢;revert hx;split
  ·rename_i kx own xs ky aPG ys _ _;rintro⟨a,b,c,e⟩;refine⟨a,b,c,?_⟩;cases own<;>simp only at e⊢<;>first|(rw[e];exact hR)|exact e
  exact id
 |store t x v=>
  simp only[LOp.aAd] at hx⊢;revert hx;split
  ·rintro⟨es,a,b,c,e⟩;exact⟨es,a,b,c,by rw[e];exact hR⟩
  exact id
 |mkz k b x z=>
  simp only[LOp.aAd] at hx⊢;revert hx;split
  ·rintro⟨a,b,e⟩;exact⟨a,b,e.imp (fun e=>by rw[e];exact hR) (fun e=>by rw[e];exact hR)⟩
  exact id
 |appz k b x y z=>
  simp only[LOp.aAd] at hx⊢;revert hx;split
  ·rintro⟨a,b,c,e⟩;exact⟨a,b,c,by rw[e];exact hR⟩
  exact id
 |clear k x z=>exact hx.elim
 |call f args=>
  rcases hx with⟨v,q1,q2⟩|⟨k,es,q1,q2⟩|⟨v,k,es,q1,q2⟩
  ·exact .inl ⟨v,q1,by rw[q2];exact hR⟩
  ·exact .inr (.inl ⟨k,es,q1,by rw[q2];exact hR⟩)
  exact .inr (.inr ⟨v,k,es,q1,by rw[q2];exact hR⟩)
 |callw f args fl=>
  rcases hx with⟨v,q1,q2⟩|⟨k,es,q1,q2⟩|⟨c,v,k,es,q1,q3,q2⟩
  ·exact .inl ⟨v,q1,by rw[q2];exact hR⟩
  ·exact .inr (.inl ⟨k,es,q1,by rw[q2];exact hR⟩)
  exact .inr (.inr ⟨c,v,k,es,q1,q3,by rw[q2];exact hR⟩)
 |callv x args=>
  simp only[LOp.aAd] at hx⊢;revert hx;split
  ·rintro(⟨v,q1,q2⟩|⟨k,es,q1,q2⟩)
   ·exact .inl ⟨v,q1,by rw[q2];exact hR⟩
   exact .inr ⟨k,es,q1,by rw[q2];exact hR⟩
  exact id
theorem oh{P:Program}{h0:Hp}{a:Nat}{o:aA}{sl:List V}{R:fC→Prop}(hs:fQ P h0 a o sl R):∃d,fQ P h0 a o sl (·=d)∧R d:=by
 unfold fQ at hs⊢;split at hs
 ·exact LOp.aCY hs
 split at hs
 ·split at hs
  ·rename_i hb;obtain⟨d,h1,h2⟩:=LOp.aCY hs;exact⟨d,by simpa only[hb,if_true] using h1,h2⟩
  rename_i hb;exact⟨_,by simp only[if_neg hb],hs⟩
 ·exact⟨_,rfl,hs⟩
 exact hs.elim
theorem ra{P:Program}{h0:Hp}{a:Nat}{o:aA}{sl:List V}{R:fC→Prop}{d:fC}(h1:fQ P h0 a o sl (·=d))(hR:R d):fQ P h0 a o sl R:=by
 unfold fQ at h1⊢;revert h1;split
 ·exact fun h=>LOp.aDO h hR
 split
 ·split
  ·exact fun h=>LOp.aDO h hR
  intro e;rw[e];exact hR
 ·intro e;rw[e];exact hR
 exact id
structure ya(P:Program)(h0:Hp)(nx0:Nat)(l:List (aA×List Nat))(sl0:List V)(res:List fC):Prop where
 len:res.length=l.length
 ok:∀i o aAF d,l[i]?=some (o,aAF)→res[i]?=some d→fQ P (lO h0 ((res.take i).map (·.con))) (nx0+i) o (((l.zip res).take i).foldl (fun sl p=>bL sl p.1.1.dst p.2.v) sl0) (·=d)
 tok:∀i o aAF d c,l[i]?=some (o,aAF)→res[i]?=some d→d.con=some c→sC h0 nx0 aAF ((res.take i).map (·.add)) ((res.take i).map (·.con)) c.n c.old
theorem ij{P:Program}{h0:Hp}{nx0:Nat}{Q:List V→List (Option Blk)→List (Option Con)→Prop}:∀(l r:List (aA×List Nat)) (sl0:List V) (res:List fC),
 ya P h0 nx0 l sl0 res→dJ P h0 nx0 r ((l.zip res).foldl (fun sl p=>bL sl p.1.1.dst p.2.v) sl0) (res.map (·.add)) (res.map (·.con)) Q→
 ∃aGY,ya P h0 nx0 (l++r) sl0 aGY∧Q (((l++r).zip aGY).foldl (fun sl p=>bL sl p.1.1.dst p.2.v) sl0) (aGY.map (·.add)) (aGY.map (·.con))
 |l,[],sl0,res,ht,h=>⟨res,by simpa using ht,by simpa [dJ] using h⟩
 |l,(o,aAF)::r,sl0,res,ht,h=>by
  unfold dJ at h;obtain⟨d,h1,h2,h3⟩:=oh h;have hz:((l++[(o,aAF)]).zip (res++[d]))=l.zip res++[((o,aAF),d)]:=by rw[List.zip_append ht.len.symm];rfl
  have hzl:(l.zip res).length=l.length:=by simp[ht.len]
  have ht':ya P h0 nx0 (l++[(o,aAF)]) sl0 (res++[d]):=by
   refine⟨by simp[ht.len],?_,?_⟩
   ·intro i o' aAI d' hi hd;by_cases e:i<l.length
    ·rw[Ki e] at hi;rw[Ki (by rw[ht.len];exact e)] at hd;have:=ht.ok i o' aAI d' hi hd;have e1:(res++[d]).take i=res.take i:=KH (by rw[ht.len];omega);have e2:(l.zip res++[((o,aAF),d)]).take i=(l.zip res).take i:=KH (by rw[hzl];omega);rw[hz,e1,e2];exact this
    have hi':i=l.length:=by
     have:=(KC.1 hi).1;simp at this;omega
    subst hi';simp at hi;rw[←ht.len] at hd;simp at hd;obtain⟨rfl,rfl⟩:=hi;subst hd;have e1:(res++[d]).take l.length=res:=by rw[←ht.len,KH (KF _),Wu]
    have e2:(l.zip res++[((o,aAF),d)]).take l.length=l.zip res:=by rw[KH or,List.take_of_length_le or]
    rw[hz,e1,e2];simpa [ht.len] using h1
   intro i o' aAI d' n hi hd hn;by_cases e:i<l.length
   ·rw[Ki e] at hi;rw[Ki (by rw[ht.len];exact e)] at hd;have:=ht.tok i o' aAI d' n hi hd hn;rw[KH (by rw[ht.len];omega)];exact this
   have hi':i=l.length:=by
    have:=(KC.1 hi).1;simp at this;omega
   subst hi';simp at hi;rw[←ht.len] at hd⊢;simp at hd;obtain⟨rfl,rfl⟩:=hi;subst hd;rw[KH (KF _),Wu];exact h2 n hn
  obtain⟨aGY,q1,q2⟩:=ij (l++[(o,aAF)]) r sl0 (res++[d]) ht' (by rw[hz,Wl];simpa using h3);refine⟨aGY,by simpa using q1,by simpa using q2⟩
def aK.aAD:aK→List Nat
 | .slot t=>[t]
 | .const _=>[]
def rN:Option aK→List Nat
 |none=>[]
 |some l=>l.aAD
def aW.aAD:aW→List Nat
 | .move x=>x.aAD
 | .pick c a b=>c.aAD++(a.aAD++b.aAD)
 | .load _ x=>x.aAD
 | .nilCheck x=>x.aAD
 | .bin _ x y=>x.aAD++y.aAD
 | .eq _ _ x y=>x.aAD++y.aAD
 | .not x=>x.aAD
 | .neg x=>x.aAD
 | .conv _ x=>x.aAD
 | .mkif _ x=>x.aAD
 | .mkfn _ a b=>a.flatMap aK.aAD++b.flatMap aK.aAD
 | .fldA _ x=>x.aAD
 | .fld _ _ x=>x.aAD
 | .idxA _ x i=>x.aAD++i.aAD
 | .idxP _ _ x i=>x.aAD++i.aAD
 | .len x=>x.aAD
 | .slen x=>x.aAD
 | .ext x _=>x.aAD
 | .build _ ps=>ps.flatMap fun p=>p.2.2.aAD
 | .slc _ x lo hi mx=>x.aAD++(rN lo++(rN hi++rN mx))
 | .slcs x lo hi=>x.aAD++(rN lo++rN hi)
 | .never=>[]
 | .capv x=>x.aAD
 | .mnx _ x y=>x.aAD++y.aAD
 | .sidx _ x y=>x.aAD++y.aAD
 | .pslc _ _ x hi=>x.aAD++rN hi
 | .asrt _ _ x=>x.aAD
 | .asrq _ x=>x.aAD
 | .mget _ _ _ _ x i=>x.aAD++i.aAD
 | .mlen x=>x.aAD
def MOp.aAD:MOp→List Nat
 | .mk=>[]
 | .put _ _ x k v=>x.aAD++(k.aAD++v.aAD)
 | .ent _ _ _ x k=>x.aAD++k.aAD
 | .est x s v=>x.aAD++(s.aAD++v.aAD)
 | .del _ _ x k=>x.aAD++k.aAD
 | .rng x=>x.aAD
 | .nxt x=>x.aAD
 | .key x=>x.aAD
def LOp.aAD:LOp→List Nat
 | .val x=>x.aAD
 | .box _ x=>x.aAD
 | .bslice _ es=>es.flatMap aK.aAD
 | .append _ _ x y=>x.aAD++y.aAD
 | .store _ x v=>x.aAD++v.aAD
 | .call _ args=>args.flatMap aK.aAD
 | .callv x args=>x.aAD++args.flatMap aK.aAD
 | .mkz _ _ x _=>x.aAD
 | .appz _ _ x y _=>x.aAD++y.aAD
 | .clear _ x _=>x.aAD
 | .callw _ args fl=>args.flatMap aK.aAD++fl.flatMap aK.aAD
 | .mp m=>m.aAD
def aA.aAD(o:aA):List Nat:=
 (match o.g with
  |some (t,_)=>[t]
  |none=>[])++o.op.aAD
def eD(sl sl':List V)(ts:List Nat):Prop:=∀t∈ts,sl.getD t Ka=sl'.getD t Ka
theorem eD.left{sl sl':List V}{a b:List Nat}(h:eD sl sl' (a++b)):eD sl sl' a:=fun t ht=>h t (KO.2 (.inl ht))
theorem eD.right{sl sl':List V}{a b:List Nat}(h:eD sl sl' (a++b)):eD sl sl' b:=fun t ht=>h t (KO.2 (.inr ht))
theorem aK.aAA{sl sl':List V}{x:aK}(h:eD sl sl' x.aAD):x.ev sl=x.ev sl':=by
 cases x with
 |slot t=>exact h t (by simp[aK.aAD])
 |const v=>rfl
theorem gT{sl sl':List V}{xs:List aK}(h:eD sl sl' (xs.flatMap aK.aAD)):xs.map (aK.ev sl)=xs.map (aK.ev sl'):=
 Wb fun x hx=>aK.aAA fun t ht=>h t (QB.2 ⟨x,hx,ht⟩)
theorem kR{sl sl':List V}{d:Int}{o:Option aK}(h:eD sl sl' (rN o)):cW sl d o=cW sl' d o:=by
 cases o with
 |none=>rfl
 |some l=>simp only[cW,aK.aAA (x:=l) h]
theorem zP{sl sl':List V}{o:Option aK}(h:eD sl sl' (rN o)):eC sl o=eC sl' o:=by
 cases o with
 |none=>rfl
 |some l=>simp only[eC,aK.aAA (x:=l) h]
theorem aW.aBm{sl sl':List V}{h:Hp}{R:V→Prop}{l:aW}(ha:eD sl sl' l.aAD):l.sem sl h R↔l.sem sl' h R:=by
 cases l with
 |move x=>simp only[aW.sem,aK.aAA (x:=x) ha]
 |pick c a b=>simp only[aW.sem,aK.aAA (x:=c) ha.left,aK.aAA (x:=a) (eD.left ha.right),aK.aAA (x:=b) (eD.right ha.right)]
 |load t x=>simp only[aW.sem,aK.aAA (x:=x) ha]
 |nilCheck x=>simp only[aW.sem,aK.aAA (x:=x) ha]
 |bin op x y=>simp only[aW.sem,aK.aAA (x:=x) ha.left,aK.aAA (x:=y) ha.right]
 |eq n t x y=>simp only[aW.sem,aK.aAA (x:=x) ha.left,aK.aAA (x:=y) ha.right]
 |not x=>simp only[aW.sem,aK.aAA (x:=x) ha]
 |neg x=>simp only[aW.sem,aK.aAA (x:=x) ha]
 |conv k x=>simp only[aW.sem,aK.aAA (x:=x) ha]
 |mkif t x=>simp only[aW.sem,aK.aAA (x:=x) ha]
 |mkfn f a b=>simp only[aW.sem,gT (xs:=a) ha.left,gT (xs:=b) ha.right]
 |fldA o x=>simp only[aW.sem,aK.aAA (x:=x) ha]
 |fld t o x=>simp only[aW.sem,aK.aAA (x:=x) ha]
 |idxA k x i=>simp only[aW.sem,aK.aAA (x:=x) ha.left,aK.aAA (x:=i) ha.right]
 |idxP n k x i=>simp only[aW.sem,aK.aAA (x:=x) ha.left,aK.aAA (x:=i) ha.right]
 |len x=>simp only[aW.sem,aK.aAA (x:=x) ha]
 |slen x=>simp only[aW.sem,aK.aAA (x:=x) ha]
 |ext x i=>simp only[aW.sem,aK.aAA (x:=x) ha]
 |slc k x lo hi mx=>
  have h1:=eD.left ha.right;have h2:=eD.left (eD.right ha.right);have h3:=eD.right (eD.right ha.right);simp only[aW.sem,aK.aAA (x:=x) ha.left,kR h1,kR h2,kR h3,zP h2,zP h3]
 |slcs x lo hi=>
  simp only[aW.sem,aK.aAA (x:=x) ha.left,kR (eD.left ha.right),kR (eD.right ha.right)]
 |never=>exact Iff.rfl
 |capv x=>simp only[aW.sem,aK.aAA (x:=x) ha]
 |sidx n x y=>simp only[aW.sem,aK.aAA (x:=x) ha.left,aK.aAA (x:=y) ha.right]
 |pslc n k x hi=>simp only[aW.sem,aK.aAA (x:=x) ha.left,kR ha.right]
 |mnx b x y=>simp only[aW.sem,aK.aAA (x:=x) ha.left,aK.aAA (x:=y) ha.right]
 |asrt t z x=>simp only[aW.sem,aK.aAA (x:=x) ha]
 |asrq t x=>simp only[aW.sem,aK.aAA (x:=x) ha]
 |mget kS ks z ok x i=>simp only[aW.sem,aK.aAA (x:=x) ha.left,aK.aAA (x:=i) ha.right]
 |mlen x=>simp only[aW.sem,aK.aAA (x:=x) ha]
 |build z ps=>
  have e:∀p∈ps,p.2.2.ev sl=p.2.2.ev sl':=fun p hp=>aK.aAA fun t ht=>ha t (QB.2 ⟨p,hp,ht⟩);have e1:(ps.map fun p=>(p.1,(p.2.2.ev sl).cells))=ps.map fun p=>(p.1,(p.2.2.ev sl').cells):=Wb fun p hp=>by rw[e p hp]
  have e2:(∀p∈ps,(p.2.2.ev sl).fits p.2.1=true∧p.1+p.2.1.size≤z.length)↔∀p∈ps,(p.2.2.ev sl').fits p.2.1=true∧p.1+p.2.1.size≤z.length:=
   ⟨fun h p hp=>by rw[←e p hp];exact h p hp,fun h p hp=>by rw[e p hp];exact h p hp⟩
  simp only[aW.sem,e1,e2]
theorem LOp.aBb{P:Program}{sl sl':List V}{h:Hp}{a:Nat}{R:fC→Prop}{l:LOp}(ha:eD sl sl' l.aAD):l.aAd P sl h a R↔l.aAd P sl' h a R:=by
 cases l with
 |val x=>exact aW.aBm (R:=fun v=>R ⟨v,none,none⟩) ha
 |box k x=>simp only[LOp.aAd,aK.aAA (x:=x) ha]
 |bslice k es=>
  have e:∀p∈es,p.ev sl=p.ev sl':=fun p hp=>aK.aAA fun t ht=>ha t (QB.2 ⟨p,hp,ht⟩);have e2:(∀p∈es,(p.ev sl).fits k=true)↔∀p∈es,(p.ev sl').fits k=true:=
   ⟨fun h p hp=>by rw[←e p hp];exact h p hp,fun h p hp=>by rw[e p hp];exact h p hp⟩
  simp only[LOp.aAd,gT (xs:=es) ha,e2]
 |append k b x y=>simp only[LOp.aAd,aK.aAA (x:=x) ha.left,aK.aAA (x:=y) ha.right]
 |store t x v=>simp only[LOp.aAd,aK.aAA (x:=x) ha.left,aK.aAA (x:=v) ha.right]
 |mkz k b x z=>simp only[LOp.aAd,aK.aAA (x:=x) ha]
 |appz k b x y z=>simp only[LOp.aAd,aK.aAA (x:=x) ha.left,aK.aAA (x:=y) ha.right]
 |clear k x z=>exact Iff.rfl
 |mp m=>cases m<;>exact Iff.rfl
 |callw f args fl=>
  have e:∀p∈fl,p.ev sl=p.ev sl':=fun p hp=>aK.aAA fun t ht=>ha.right t (QB.2 ⟨p,hp,ht⟩);have e2:∀c:Option Con,(∀c',c=some c'→∀x∈fl,∀m k i o,x.ev sl= .ptr m k i o→m≠c'.n)↔∀c',c=some c'→∀x∈fl,∀m k i o,x.ev sl'= .ptr m k i o→m≠c'.n:=fun c=>
   ⟨fun h c' hc x hx m k i o he=>h c' hc x hx m k i o (by rw[e x hx];exact he),fun h c' hc x hx m k i o he=>h c' hc x hx m k i o (by rw[←e x hx];exact he)⟩
  simp only[LOp.aAd,gT (xs:=args) ha.left,e2]
 |call f args=>simp only[LOp.aAd,gT (xs:=args) ha]
 |callv x args=>simp only[LOp.aAd,aK.aAA (x:=x) ha.left,gT (xs:=args) ha.right]
theorem w6{P:Program}{sl sl':List V}{h:Hp}{a:Nat}{R:fC→Prop}{o:aA}(ha:eD sl sl' o.aAD):fQ P h a o sl R↔fQ P h a o sl' R:=by
 unfold fQ;unfold aA.aAD at ha;cases hg:o.g with
 |none=>rw[hg] at ha;exact LOp.aBb ha.right
 |some p=>
  obtain⟨t,want⟩:=p;rw[hg] at ha;have e:sl.getD t Ka=sl'.getD t Ka:=ha t Zm;simp only[e];have:=LOp.aBb (P:=P) (h:=h) (a:=a) (R:=R) ha.right;split
  ·split
   ·exact this
   exact Iff.rfl
  ·exact Iff.rfl
  exact Iff.rfl
def LOp.aBc(sl:List V)(m:Nat):LOp→Prop
 | .val (.load _ x)=>∃k i o,x.ev sl= .ptr m k i o
 | .call _ _=>True
 | .callv _ _=>True
 | .callw _ _ _=>True
 |_=>False
theorem aW.aGl{sl:List V}{h h':Hp}{R:V→Prop}{l:aW}(hh:∀n b,h n=some b→b.mem=true→((∃es c,b= .mp es c)∨(LOp.val l).aBc sl n)→h' n=some b)(hs:l.sem sl h R):l.sem sl h' R:=by
 cases l with
 |load t x=>
  simp only[aW.sem] at hs⊢;revert hs;split
  ·rename_i n k i o he;split
   ·rename_i k' es hn;rintro⟨a,b,c,d⟩;rw[hh _ _ hn rfl (.inr ⟨k,i,o,he⟩)];exact⟨a,b,c,d⟩
   exact False.elim
  ·exact id
  exact id
 |mget kS ks z ok x i=>
  refine⟨hs.1,?_⟩;have hs:=hs.2;revert hs;split
  ·exact id
  ·split
   ·rename_i hn;rw[hh _ _ hn rfl (.inl ⟨_,_,rfl⟩)];exact id
   exact False.elim
  exact id
 |mlen x=>
  simp only[aW.sem] at hs⊢;revert hs;split
  ·exact id
  ·split
   ·rename_i hn;rw[hh _ _ hn rfl (.inl ⟨_,_,rfl⟩)];exact id
   exact False.elim
  exact id
 |_=>exact hs
def LOp.base:LOp→LOp
 | .callw f args _=> .call f args
 |o=>o
structure ye(P:Program)(K:Ker)(h:Hp)(a:Nat)(d:fC)(o:Oper)(act:Act):Prop where
 go:∀(rd:Option Nat) (m:Nat) (next:Act→World→Prop) (Q:Exit→Act→World→Prop),
  (∀K' cv h',K.le K'→VR K' d.v cv→Rel K' h'→(∀n,K'.live n→K.live n∨n=a)→
    (∀m,m≠a→(∀c,d.con=some c→m≠c.n)→h' m=h m)→(h' a=d.add)→(∀c,d.con=some c→c.n≠a→h' c.n=c.new)→next (act.put o.dst cv) K'.w)→o.wpIn (FR rd) m P act K.w next Q
theorem mg{K K1:Ker}{h hx:Hp}{a:Nat}{b:Blk}(hr:Rel K h)(hle:K.le (K1.only fun n=>K.live n∨n=a))(hrel:Rel K1 (hx.set a b))(hxl:∀n c,n≠a→hx n=some c→h n=some c)(hb:∀k es,b= .arr k es→∀L,bM L es)(hob:∀o U,b≠ .obj o U)(hom:∀es c,b≠ .mp es c)(hoi:∀m since seen last,b≠ .mit m since seen last):Rel (K1.only fun n=>K.live n∨n=a) (hx.set a b):=by
 have aEb:∀n c,(hx.set a b) n=some c→(n=a∧c=b)∨(n≠a∧h n=some c):=fun n c e=>by
  unfold Kb at e;split at e
  ·rename_i hn;injection e with e;exact .inl ⟨hn,e.symm⟩
  rename_i hn;exact .inr ⟨hn,hxl n c hn e⟩
 refine⟨fun n c e=>?_,hrel.base,fun n c e=>?_,hrel.inj,hrel.size.re rfl rfl⟩
 ·rcases aEb n c e with⟨h1,_⟩|⟨_,h1⟩
  ·exact .inr h1
  exact .inl (hr.lt n c h1)
 have hb':=hrel.blk n c e;rcases aEb n c e with⟨hna,hcb⟩|⟨hna,h1⟩
 ·subst hna hcb;cases hb' with
  |tip c T hh hi ht=>exact .tip c T hh hi ht
  |obj o U hh ho _ hU=>exact absurd rfl (hob o U)
  |arr k es c T hh hsz hi hfit hvs=>exact .arr k es c T hh hsz hi hfit fun i hi j hj=>(hvs i hi j hj).only _ (vA (fI (hb k es rfl _) i) j)
  |mp es c ces hh hl hv=>exact absurd rfl (hom es c)
  |mit m since seen last hh hm=>exact absurd rfl (hoi m since seen last)
 have hb:=hr.blk n _ h1;cases hb' with
 |tip c T hh hi ht=>exact .tip c T hh hi ht
 |obj o U hh ho _ hU=>
  cases hb with
  |obj _ _ _ _ hu _=>exact .obj o U hh ho (hU _ _ hle.toV hu) hU
 |arr k' es' c T hh hsz hi hfit hvs=>
  refine .arr k' es' c T hh hsz hi hfit fun i hi j hj=>(hvs i hi j hj).only _ ?_;cases hb with
  |arr _ _ c0 T0 hh0 aPN hi0 aPp aPM=>exact fH (fun m hm=> .inl hm) (aPM i hi j hj).names
 |mp es' c ces hh hl hv=>cases hb with
  |mp _ _ bCO hh0 hl0 hv0=>exact .mp es' c ces hh hl fun i hi=>⟨(hv i hi).1.only _ (fH (fun m hm=> .inl hm) (hv0 i hi).1.names),(hv i hi).2.1.only _ (fH (fun m hm=> .inl hm) (hv0 i hi).2.1.names),(hv i hi).2.2⟩
 |mit m since seen last hh hm=>cases hb with
  |mit _ _ _ _ hh0 hm0=>exact .mit m since seen last hh (.inl hm0)
theorem H7{P:Program}{o:Oper}{l:LOp}(hl:jX P o=some l.base){act:Act}{K:Ker}{sl:List V}{h h0:Hp}{a nx:Nat}{d:fC}(hs:SlV K sl act)(hr:Rel K h)(aAJ:¬K.live a)(hlv:∀n,K.live n→n<nx)(ha:a<nx)
 (aGa:∀m b,h0 m=some b→b.mem=true→((∃es c,b= .mp es c)∨l.aBc sl m)→h m=some b) (htok:∀c,d.con=some c→h c.n=some c.old) (aAB:l.aAd P sl h0 a (·=d)):ye P K h a d o act:=by
 have hna:h a=none:=by
  cases e:h a with
  |none=>rfl
  |some b=>exact absurd (hr.lt a b e) aAJ
 have aCs:∀(v:V) (h':Hp),eV P o act K a (fun v' h''=>v'=v∧h''=h')→d.v=v→(∀m,m≠a→(∀c,d.con=some c→m≠c.n)→h' m=h m)→(h' a=d.add)→(∀c,d.con=some c→c.n≠a→h' c.n=c.new)→ye P K h a d o act:=by
  rintro v h' ⟨nx',cv,K',v',h'',h1,h2,h3,h4,h5,h6,rfl,rfl⟩ hv c1 c2 c3;subst hv;refine⟨fun rd m next Q hn=>?_⟩;have:=hn K' cv _ h3 h5 h6 h4 c1 c2 c3;rcases h2 with rfl|⟨rfl,rfl⟩
  ·exact tV h1 this
  exact bu h1 this
 have aBd:∀(f:FuncId) (args:List V) (v:V),(∀m,l.aBc sl m)→((∃la,l.base= .call f la∧args=la.map (aK.ev sl))∨∃x la first cap,l.base= .callv x la∧x.ev sl= .fn (.func f) first cap∧args=first++la.map (aK.ev sl)++cap)→aM P f args h0 v→(⟨v,none,none⟩:fC)=d→ye P K h a d o act:=by
  intro f args v ht hc hp hd;subst hd;refine⟨fun rd m next Q hn=>?_⟩;refine nH hl hs hr hlv hc (hp h nx fun m b e hb=>aGa m b e hb (.inr (ht m))) rd m next Q ?_
  rintro K' v' cv h' nx' q1 q2 q3 q4 q5 ⟨rfl,rfl,rfl⟩;exact hn K' cv h' q1 q2 q3 (fun n hn=>(q4 n hn).2.imp (fun x=>x) (fun x=>absurd (q4 n hn).1 or)) (fun _ _ _=>rfl) hna (fun n hn=>by cases hn)
 have hnn:h nx=none:=by
  cases e:h nx with
  |none=>rfl
  |some b=>have:=hlv nx (hr.lt nx b e);omega
 have aA8:∀(f:FuncId) (args:List V) (k:Sh) (es:List V),(∀m,l.aBc sl m)→((∃la,l.base= .call f la∧args=la.map (aK.ev sl))∨∃x la first cap,l.base= .callv x la∧x.ev sl= .fn (.func f) first cap∧args=first++la.map (aK.ev sl)++cap)→jm P f args h0 k es→(⟨.sl k (.tok a) es,some .tip,none⟩:fC)=d→ye P K h a d o act:=by
  intro f args k es ht hc hp hd;subst hd;refine⟨fun rd m next Q hn=>?_⟩;refine nH hl hs hr hlv hc (hp.2 h nx fun m b e hb=>aGa m b e hb (.inr (ht m))) rd m next Q ?_
  rintro K' v' cv h' nx' q1 q2 q3 q4 q5 ⟨rfl,rfl,rfl⟩;have hfr:¬K'.live a:=fun hl=>by
   rcases(q4 a hl).2 with h|h
   ·exact aAJ h
   omega
  have aAQ:(h.set nx .tip) nx=some .tip:=by simp[Kb]
  have aD8:((h.set nx .tip).del nx).set a .tip=h.set a .tip:=by
   funext x;unfold Kb Kk;by_cases e1:x=a
   ·simp[e1]
   by_cases e2:x=nx
   ·simp[e1,e2,hnn]
   simp[e1,e2]
  have hbr:=q3.blk nx _ aAQ;have hle:=K'.aAT (b:=K'.mu nx) (m:=K'.imm (K'.mu nx)) hfr (KF _);have hrel:=q3.aAH aAQ (a:=a) (m:=K'.imm (K'.mu nx)) hfr (KF _) (b1:= .tip) (by
   cases hbr with
   |tip c T hh hi ht=>exact .tip c T (by simpa [Kf] using hh) (by simp[Kf]) (by simpa [Kf,hi] using ht))
  rw[aD8] at hrel;have hvr:VR (K'.aAH a (K'.mu nx) (K'.imm (K'.mu nx))) (.sl k (.tok a) es) cv:=by
   cases q2 with
   |sl _ _ _ b off cap f' hb' hfit' hcell hst hv hcap hnil hfull htok=>
    refine .sl k (.tok a) es b off cap f' hb' hfit' hcell (fun j hj=>hle.still hb' (hst j hj)) (fun i hi j hj=>(hv i hi j hj).mono hle) hcap Zm Zm ?_;intro m hm;injection hm with hm;subst hm;obtain⟨hln,htk⟩:=htok nx rfl;refine⟨.inl rfl,?_⟩;rcases htk with q|⟨q1,q2,q3⟩
    ·exact .inl q
    refine .inr ⟨by simp[Kf,q1],?_,q3⟩;cases hbr with
    |tip c T hh hi ht=>simp[Kf,hi,q2]
  have aAS:=q1.trans hle
  --the callee's own names are forgotten
  have aCV:K.le ((K'.aAH a (K'.mu nx) (K'.imm (K'.mu nx))).only fun n=>K.live n∨n=a):=⟨fun n hn=> .inl hn,aAS.mu,aAS.tp,aAS.fro,aAS.imm,aAS.cell,aAS.shape,aAS.below⟩;refine hn ((K'.aAH a (K'.mu nx) (K'.imm (K'.mu nx))).only fun n=>K.live n∨n=a) cv (h.set a .tip) aCV (hvr.only _ ⟨fun n e=>by injection e with e;exact .inr e.symm,hp.1 _⟩) (mg hr aCV hrel (fun n c hn e=>e) (fun k es e=>by cases e) (fun o U e=>by cases e) (fun es c e=>by cases e) (fun m s sn l e=>by cases e)) (fun n hn=>hn) (fun m hm _=>by simp[Kb,hm]) (by simp[Kb]) (fun n hn=>by cases hn)
 have aCQ:∀(f:FuncId) (args:List V) (c:Option Con) (v:Nat→V) (k:Sh) (es:List V),(∀m,l.aBc sl m)→((∃la,l.base= .call f la∧args=la.map (aK.ev sl))∨∃x la first cap,l.base= .callv x la∧x.ev sl= .fn (.func f) first cap∧args=first++la.map (aK.ev sl)++cap)→HM P f args h0 c v k es→(⟨v a,some (.arr k es),c⟩:fC)=d→ye P K h a d o act:=by
  rintro f args c v k es ht hc ⟨hmv,hnm,hcn,hp⟩ hd;subst hd;refine⟨fun rd m next Q hn=>?_⟩;refine nH hl hs hr hlv hc (hp h nx fun m b e hb=>aGa m b e hb (.inr (ht m))) rd m next Q ?_
  rintro K' v' cv h' nx' q1 q2 q3 q4 q5 ⟨rfl,rfl,rfl⟩;have hfr:¬K'.live a:=fun hl=>by
   rcases(q4 a hl).2 with h|h
   ·exact aAJ h
   omega
  have aAQ:((h.aBY c).set nx (.arr k es)) nx=some (.arr k es):=by simp[Kb]
  have aFE:∀m b,(h.aBY c) m=some b→h m=some b:=by
   intro m b e;cases c with
   |none=>exact e
   |some c=>
    have:=(hcn c rfl).1;simp only[Hp.aBY,this,Kk] at e;split at e
    ·cases e
    exact e
  have htn:(h.aBY c) nx=none:=by
   cases e:(h.aBY c) nx with
   |none=>rfl
   |some b=>rw[aFE nx b e] at hnn;cases hnn
  have hta:(h.aBY c) a=none:=by
   cases e:(h.aBY c) a with
   |none=>rfl
   |some b=>rw[aFE a b e] at hna;cases hna
  have aD8:(((h.aBY c).set nx (.arr k es)).del nx).set a (.arr k es)=(h.aBY c).set a (.arr k es):=by
   funext x;unfold Kb Kk;by_cases e1:x=a
   ·simp[e1]
   by_cases e2:x=nx
   ·simp[e1,e2,htn]
   simp[e1,e2]
  have hbr:=q3.blk nx _ aAQ;have hle:=K'.aAT (b:=K'.mu nx) (m:=K'.imm (K'.mu nx)) hfr (KF _);have hrel:=q3.aAH aAQ (a:=a) (m:=K'.imm (K'.mu nx)) hfr (KF _) (b1:= .arr k es) (by
   cases hbr with
   |arr _ _ c T hh hsz hi hfit hvs=>exact .arr k es c T (by simpa [Kf] using hh) hsz (by simp[Kf,hi]) hfit fun i hi j hj=>(hvs i hi j hj).mono hle)
  rw[aD8] at hrel;have aAS:=q1.trans hle;have aCV:K.le ((K'.aAH a (K'.mu nx) (K'.imm (K'.mu nx))).only fun n=>K.live n∨n=a):=⟨fun n hn=> .inl hn,aAS.mu,aAS.tp,aAS.fro,aAS.imm,aAS.cell,aAS.shape,aAS.below⟩;refine hn ((K'.aAH a (K'.mu nx) (K'.imm (K'.mu nx))).only fun n=>K.live n∨n=a) cv ((h.aBY c).set a (.arr k es)) aCV (hmv K' nx a cv _ hfr (.inr rfl) q2) (mg hr aCV hrel (fun n c hn e=>aFE n c e) (fun k' es' e L=>by cases e;exact hnm L) (fun o U e=>by cases e) (fun es c e=>by cases e) (fun m s sn l e=>by cases e)) (fun n hn=>hn) (fun m hm hmc=>?_) (by simp[Kb]) (fun c' hc' hne=>?_)
  ·simp only[Kb,if_neg hm];cases c with
   |none=>rfl
   |some c=>
    have hne:=hmc c rfl;have:=(hcn c rfl).1;simp only[Hp.aBY,this,Kk,if_neg hne]
  have hc':c=some c':=hc';subst hc';have:=(hcn c' rfl).1;simp only[Kb,if_neg hne,Hp.aBY,this,Kk,if_true]
 cases l with
 |val x=>
  obtain⟨v,h1,h2⟩:=aW.aCH (show x.sem sl h0 (fun v=>(⟨v,none,none⟩:fC)=d) from aAB);subst h2;refine aCs v h (cC hl hs hr aAJ (show x.sem sl h (fun v'=>v'=v∧h=h) from aW.aAo (fun _ _ e _=>e) (fun v' hv=>⟨hv,rfl⟩) (aW.aGl aGa h1))) rfl (fun _ _ _=>rfl) hna (fun n hn=>by cases hn)
 |box k x=>
  obtain⟨h1,rfl⟩:=aAB;exact aCs _ (h.set a (.arr k [x.ev sl])) (cC hl hs hr aAJ ⟨h1,rfl,rfl⟩) rfl (fun m hm _=>by simp[Kb,hm]) (by simp[Kb]) (fun n hn=>by cases hn)
 |bslice k es=>
  rcases aAB with⟨h1,rfl|rfl⟩
  ·exact aCs _ (h.set a .tip) (cC hl hs hr aAJ ⟨h1, .inl ⟨rfl,rfl⟩⟩) rfl (fun m hm _=>by simp[Kb,hm]) (by simp[Kb]) (fun n hn=>by cases hn)
  exact aCs _ (h.set a (.arr k (es.map (aK.ev sl)))) (cC hl hs hr aAJ ⟨h1, .inr ⟨rfl,rfl⟩⟩) rfl (fun m hm _=>by simp[Kb,hm]) (by simp[Kb]) (fun n hn=>by cases hn)
 |append k bytes x y=>
  simp only[LOp.aAd] at aAB;split at aAB
  ·rename_i kx own xs ky aPG ys ex ey;obtain⟨rfl,rfl,hb,hR⟩:=aAB;have mk:∀(_:sG h own),eV P o act K a (fun v' h''=>v'= .sl ky (fB a own ys) (xs++ys)∧h''=gC h a own ys):=fun hok=>
    cC hl hs hr aAJ (by simp only[LOp.sem,LOp.base,ex,ey,dQ];exact⟨trivial,trivial,hb, .inl ⟨hok,trivial,trivial⟩⟩)
   cases own with
   |nil=>
    simp only at hR;subst hR;refine aCs _ _ (mk trivial) rfl (fun m hm _=>?_) ?_ (fun n hn=>by cases hn)
    ·unfold gC;simp only;split<;>simp[Kb,hm]
    unfold gC;simp only;split<;>simp[Kb,hna]
   |full=>
    simp only at hR;subst hR;refine aCs _ _ (mk trivial) rfl (fun m hm _=>?_) ?_ (fun n hn=>by cases hn)
    ·unfold gC;simp only;split<;>simp[Kb,hm]
    unfold gC;simp only;split<;>simp[Kb,hna]
   |tok n=>
    simp only at hR;subst hR;refine aCs _ _ (mk (htok _ rfl)) rfl (fun m hm hc=>?_) ?_ (fun c hn hne=>?_)
    ·have:=hc _ rfl;simp[gC,Kb,Kk,hm];intro e;exact absurd e this
    ·simp[gC,Kb]
    injection hn with hn;subst hn;simp only at hne;simp[gC,Kb,Kk,hne]
   |free=>exact hR.elim
  exact aAB.elim
 |store t x v=>
  simp only[LOp.aAd] at aAB;split at aAB
  ·rename_i n k i oo ex;obtain⟨es,h1,h2,h3,rfl⟩:=aAB;have hn:=htok _ rfl;simp only at hn;have hne:n≠a:=fun e=>by subst e;rw[hna] at hn;cases hn
   refine aCs Ka (h.set n (.arr k (es.set i (bZ t oo (es.getD i Ka) (v.ev sl))))) (cC hl hs hr aAJ (by simp only[LOp.sem,LOp.base,ex,hn];exact⟨trivial,h1,h2,h3,trivial,trivial⟩)) rfl (fun m hm hc=>?_) ?_ (fun c hc _=>?_)
   ·have:=hc _ rfl;simp[Kb];intro e;exact absurd e this
   ·simp[Kb,Ne.symm hne,hna]
   injection hc with hc;subst hc;simp[Kb]
  exact aAB.elim
 |mkz k b x z=>
  simp only[LOp.aAd] at aAB;split at aAB
  ·rename_i km m ex;rcases aAB with⟨h1,h2,rfl|rfl⟩
   ·exact aCs _ _ (cC hl hs hr aAJ (by simp only[LOp.sem,LOp.base,ex];exact⟨h1,h2, .inl ⟨trivial,rfl⟩⟩)) rfl (fun m hm _=>by simp[Kb,hm]) (by simp[Kb]) (fun n hn=>by cases hn)
   exact aCs _ _ (cC hl hs hr aAJ (by simp only[LOp.sem,LOp.base,ex];exact⟨h1,h2, .inr ⟨trivial,rfl⟩⟩)) rfl (fun m hm _=>by simp[Kb,hm]) (by simp[Kb]) (fun n hn=>by cases hn)
  exact aAB.elim
 |appz k b x y z=>
  simp only[LOp.aAd] at aAB;split at aAB
  ·rename_i k' ky m ex ey;obtain⟨rfl,h1,h2,rfl⟩:=aAB;exact aCs _ _ (cC hl hs hr aAJ (by simp only[LOp.sem,LOp.base,ex,ey];exact⟨trivial,h1,h2,trivial,rfl⟩)) rfl (fun m hm _=>by simp[Kb,hm]) (by simp[Kb]) (fun n hn=>by cases hn)
  exact aAB.elim
 |clear k x z=>exact aAB.elim
 |mp m=>
  cases m<;>first
   |exact aAB.elim
   |(have e:(⟨.map a,some (.mp [] 0),none⟩:fC)=d:=aAB
     subst e;exact aCs _ (h.set a (.mp [] 0)) (cC hl hs hr aAJ ⟨rfl,rfl⟩) rfl (fun m hm _=>by simp[Kb,hm]) (by simp[Kb]) (fun n hn=>by cases hn))
 |call f args=>
  rcases aAB with⟨v,h1,h2⟩|⟨k,es,h1,h2⟩|⟨v,k,es,h1,h2⟩
  ·exact aBd f _ v (fun _=>trivial) (.inl ⟨args,rfl,rfl⟩) h1 h2
  ·exact aA8 f _ k es (fun _=>trivial) (.inl ⟨args,rfl,rfl⟩) h1 h2
  exact aCQ f _ none v k es (fun _=>trivial) (.inl ⟨args,rfl,rfl⟩) h1 h2
 |callw f args fl=>
  rcases aAB with⟨v,h1,h2⟩|⟨k,es,h1,h2⟩|⟨c,v,k,es,h1,_,h2⟩
  ·exact aBd f _ v (fun _=>trivial) (.inl ⟨args,rfl,rfl⟩) h1 h2
  ·exact aA8 f _ k es (fun _=>trivial) (.inl ⟨args,rfl,rfl⟩) h1 h2
  exact aCQ f _ c v k es (fun _=>trivial) (.inl ⟨args,rfl,rfl⟩) h1 h2
 |callv x args=>
  simp only[LOp.aAd] at aAB;split at aAB
  ·rename_i f first cap e
   rcases aAB with⟨v,h1,h2⟩|⟨k,es,h1,h2⟩
   ·exact aBd f _ v (fun _=>trivial) (.inr ⟨x,args,first,cap,rfl,e,rfl⟩) h1 h2
   exact aA8 f _ k es (fun _=>trivial) (.inr ⟨x,args,first,cap,rfl,e,rfl⟩) h1 h2
  exact aAB.elim
def iA(ops:Array Oper)(i:Nat):Option Nat:=(ops[i]?).bind (·.dst)
def zd1(ops:Array Oper)(n i:Nat):List Nat:=((ops[i]?).map fun o=>(o.after.toList.filter (fun e=>Region.binds .any e&&decide (e.on<n))).map (·.on)).getD []
def rB(ops:Array Oper)(n:Nat):Nat→List (List Nat)
 |0=>[]
 |i+1=>rB ops n i++[(Kq i).filter fun q=>(zd1 ops n i).contains q||(zd1 ops n i).any fun d=>((rB ops n i).getD d []).contains q]
def oR(ops:Array Oper)(n i:Nat):List Nat:=(rB ops n n).getD i []
theorem mI(ops:Array Oper)(n:Nat):∀m,(rB ops n m).length=m
 |0=>rfl
 |m+1=>by simp[rB,mI ops n m]
theorem oT(ops:Array Oper)(n:Nat):∀(m i:Nat),i<m→(rB ops n m).getD i []=(Kq i).filter fun q=>(zd1 ops n i).contains q||(zd1 ops n i).any fun d=>((rB ops n i).getD d []).contains q
 |0,_,h=>or
 |m+1,i,h=>by
  have e0:rB ops n (m+1)=rB ops n m++[(Kq m).filter fun q=>(zd1 ops n m).contains q||(zd1 ops n m).any fun d=>((rB ops n m).getD d []).contains q]:=rfl;rw[e0,Kc];by_cases e:i<m
  ·rw[Ki (by rw[mI];exact e),←Kc];exact oT ops n m i e
  have:i=m:=or;subst this;rw[Ko (by rw[mI];exact KF _),mI];simp
theorem j5(ops:Array Oper)(n:Nat){S:Nat→Prop}:∀(i:Nat),(∀j,j≤i→S j→∀d∈zd1 ops n j,S d)→S i→∀m,i<m→∀q∈(rB ops n m).getD i [],S q:=by
 intro i;induction i using Nat.strongRecOn with
 |ind i ih=>
  intro hc hs m hm q hq;rw[oT ops n m i hm] at hq;obtain⟨h1,h2⟩:=QF.1 hq;simp only[QG,Qj,QP] at h2;rcases h2 with h2|⟨d,h2,h3⟩
  ·exact hc i (KF _) hs q h2
  by_cases hd:d<i
  ·exact ih d hd (fun j hj=>hc j or) (hc i (KF _) hs d h2) i hd q h3
  rw[Kc,QA (by rw[mI];omega)] at h3;cases h3
def qZ(ops:Array Oper)(n j:Nat):List aK:=
 (Kq j).filterMap fun i=>match ops[i]? with
   |some o=>match o.op with
    | .load _ (.tmp t)=>if (oR ops n j).contains i then none else some (aK.slot t)
    |_=>none
   |none=>none
def LOp.aAt(w:Bool)(fl:List aK):LOp→LOp
 | .call f args=>if w then .callw f args fl else .call f args
 |o=>o
def aA.aAt(w:Bool)(fl:List aK)(o:aA):aA:=⟨o.dst,o.g,o.op.aAt w fl⟩
theorem LOp.aCf{w:Bool}{fl:List aK}{l:LOp}(h:∀f a b,l≠ .callw f a b):(l.aAt w fl).base=l:=by
 cases l with
 |callw f a b=>exact absurd rfl (h f a b)
 |call f args=>cases w<;>rfl
 |_=>rfl
theorem qj{P:Program}{o:Oper}{l:LOp}(h:jX P o=some l):∀f a b,l≠ .callw f a b:=by
 rintro f a b rfl;have hs:∀(K:Ker) (sl:List V) (act:Act),(∀t,VR K (sl.getD t Ka) (act.tmps.getD t Kj))→True:=fun _ _ _ _=>trivial;rcases mF h with⟨x,_,e⟩|⟨f',args,ts,ls,_,_,e⟩|⟨n,args,ts,ls,_,_,e⟩|e
 ·cases e
 ·cases e
 ·cases e
 cases e
def LOp.aBn:LOp→LOp
 | .callw f args _=> .callw f args []
 |o=>o
def aA.aBn(o:aA):aA:=⟨o.dst,o.g,o.op.aBn⟩
theorem LOp.aC1(l:LOp):l.aBn.base=l.base:=by cases l<;>rfl
theorem LOp.aCa(l:LOp)(sl:List V)(m:Nat):l.aBn.aBc sl m=l.aBc sl m:=by cases l<;>rfl
theorem LOp.aFA{l:LOp}{x:aK}(h:(match l with| .val (.load _ x)=>some x|_=>none)=some x):l.aBn=l:=by cases l<;>first|rfl|(cases h)
theorem oe{P:Program}{sl:List V}{h0:Hp}{a:Nat}{R:fC→Prop}{l:LOp}(h:l.aAd P sl h0 a R):l.aBn.aAd P sl h0 a R:=by
 cases l with
 |callw f args fl=>
  simp only[LOp.aBn,LOp.aAd] at h⊢;rcases h with h|h|⟨c,v,k,es,h1,_,h3⟩
  ·exact .inl h
  ·exact .inr (.inl h)
  exact .inr (.inr ⟨c,v,k,es,h1,(fun c' _ x hx=>by cases hx),h3⟩)
 |_=>exact h
theorem Ax{P:Program}{sl:List V}{h:Hp}{a:Nat}{R:fC→Prop}{o:aA}(ho:fQ P h a o sl R):fQ P h a o.aBn sl R:=by
 unfold fQ at ho⊢;show(match o.g with|none=>_|some (t,want)=>_);cases hg:o.g with
 |none=>rw[hg] at ho;exact oe ho
 |some p=>
  obtain⟨t,want⟩:=p;rw[hg] at ho;simp only at ho⊢
  cases hv:sl.getD t Ka<;>rw[hv] at ho<;>simp only at ho⊢<;>first
   |exact ho
   |(split at ho
     ·rename_i e;rw[if_pos e];exact oe ho
     rename_i e;rw[if_neg e];exact ho)
def dN(P:Program)(ops:Array Oper)(n:Nat)(w:Bool):Nat→List Oper→Option (List (aA×List Nat))
 |_,[]=>some []
 |i,o::r=>(sU P ops o).bind fun l=>(dN P ops n w (i+1) r).map ((l.aAt w (qZ ops n i),oR ops n i):: ·)
def LOp.aOz:LOp→Option aK
 | .val (.load _ x)=>some x
 |_=>none
def LOp.aPJ:LOp→Bool
 | .call _ _=>true
 | .callv _ _=>true
 | .callw _ _ _=>true
 |_=>false
def tu:aK→aK→Bool
 | .slot a, .slot b=>a==b
 |_,_=>false
def cX(lj:LOp)(aAF:List Nat)(i:Nat)(li:LOp):Bool:=
 aAF.contains i||match lj with
  | .store _ _ _=>li.aOz.isNone&& !li.aPJ
  | .callw _ _ fl=> !li.aPJ&&match li.aOz with
   |some x=>fl.any (tu x)
   |none=>true
  |_=>true
def qT(ops:Array Oper)(n:Nat)(l:List (aA×List Nat)):Bool:=
 Region.noSelect ops&&(decide (n=ops.size)||(decide (n<ops.size)&&Region.sinkB .any ops n&&Region.chainB .any ops n))&&
 Region.seqB .any ops (ops.size-n) n ((Kq ops.size).map (fun i=>decide (i<n))).toArray&&
 (Kq n).all (fun i=>match ops[i]?,l[i]? with
   |some o,some (lo,aAF)=>(o.after.toList.all fun e=> !Region.binds .any e||decide (e.on<i))&&(lo.aBn.aAD.all fun t=>(Kq n).all fun j=>iA ops j != some t||aAF.contains j)&&aAF.all (fun d=>decide (d<i))&&
    (Kq i).all fun q=>match l[q]? with
      |some (lq,_)=>cX lo.op aAF q lq.op
      |none=>false
   |_,_=>false)&&
 (Kq n).all (fun i=>(Kq n).all fun j=>i==j||(iA ops i).isNone||iA ops i != iA ops j)
theorem iF{P:Program}{ops:Array Oper}{n:Nat}{w:Bool}:∀(r:List Oper) (i:Nat) (l:List (aA×List Nat)),dN P ops n w i r=some l→l.length=r.length∧
 ∀j o,r[j]?=some o→∃lo,l[j]?=some (lo.aAt w (qZ ops n (i+j)),oR ops n (i+j))∧sU P ops o=some lo
 | [],i,l,h=>by simp[dN] at h;subst h;exact⟨rfl,fun j o hj=>by simp at hj⟩
 |o::r,i,l,h=>by
  unfold dN at h;obtain⟨lo,h1,h⟩:=Kd.1 h;obtain⟨lr,h2,rfl⟩:=Kg.1 h;obtain⟨q1,q2⟩:=iF r (i+1) lr h2;refine⟨by simp[q1],fun j o' hj=>?_⟩;cases j with
  |zero=>simp at hj;subst hj;exact⟨lo,Zm,h1⟩
  |succ j=>
   obtain⟨lo',e1,e2⟩:=q2 j o' (by simpa using hj);exact⟨lo',by simpa [QX,WF 1 j] using e1,e2⟩
theorem Fm{P:Program}{sl:List V}{h0:Hp}{a:Nat}{d:fC}{l:LOp}{c:Con}(hs:l.aAd P sl h0 a (·=d))(hc:d.con=some c):
 c.old= .tip∨(∃k es,c.old= .arr k es)∧((∃t x v,l= .store t x v)∨∃f args fl,l= .callw f args fl∧∀x∈fl,∀m k i o,x.ev sl= .ptr m k i o→m≠c.n):=by
 cases l with
 |val x=>
  obtain⟨v,_,h2⟩:=aW.aCH (show x.sem sl h0 (fun v=>(⟨v,none,none⟩:fC)=d) from hs);subst h2;cases hc
 |box k x=>obtain⟨_,rfl⟩:=hs;cases hc
 |bslice k es=>rcases hs with⟨_,rfl|rfl⟩<;>cases hc
 |append k b x y=>
  simp only[LOp.aAd] at hs;split at hs
  ·obtain⟨_,_,_,hs⟩:=hs;split at hs
   ·subst hs;cases hc
   ·subst hs;cases hc
   ·subst hs;injection hc with hc;subst hc;exact .inl rfl
   exact hs.elim
  exact hs.elim
 |store t x v=>
  refine .inr ⟨?_, .inl ⟨t,x,v,rfl⟩⟩;simp only[LOp.aAd] at hs;split at hs
  ·obtain⟨es,_,_,_,rfl⟩:=hs;injection hc with hc;subst hc;exact⟨_,_,rfl⟩
  exact hs.elim
 |mp m=>cases m<;>first|exact hs.elim|(have e:(⟨.map a,some (.mp [] 0),none⟩:fC)=d:=hs;subst e;cases hc)
 |mkz k b x z=>
  simp only[LOp.aAd] at hs;split at hs
  ·rcases hs with⟨_,_,rfl|rfl⟩<;>cases hc
  exact hs.elim
 |appz k b x y z=>
  simp only[LOp.aAd] at hs;split at hs
  ·obtain⟨_,_,_,rfl⟩:=hs;cases hc
  exact hs.elim
 |clear k x z=>exact hs.elim
 |call f args=>rcases hs with⟨v,_,rfl⟩|⟨k,es,_,rfl⟩|⟨v,k,es,_,rfl⟩<;>cases hc
 |callv x args=>
  simp only[LOp.aAd] at hs;split at hs
  ·rcases hs with⟨v,_,rfl⟩|⟨k,es,_,rfl⟩<;>cases hc
  exact hs.elim
 |callw f args fl=>
  rcases hs with⟨v,_,rfl⟩|⟨k,es,_,rfl⟩|⟨c',v,k,es,ht,h2,rfl⟩
  ·cases hc
  ·cases hc
  exact .inr ⟨(ht.2.2.1 c hc).2.1, .inr ⟨f,args,fl,rfl,h2 c hc⟩⟩
theorem Dq{P:Program}{sl:List V}{h0:Hp}{a:Nat}{d:fC}{o:aA}{c:Con}(hs:fQ P h0 a o sl (·=d))(hc:d.con=some c):o.op.aAd P sl h0 a (·=d):=by
 unfold fQ at hs;split at hs
 ·exact hs
 split at hs
 ·split at hs
  ·exact hs
  subst hs;cases hc
 ·subst hs;cases hc
 exact hs.elim
theorem ck{sl:List V}{m:Nat}{l:LOp}(h:l.aBc sl m):l.aPJ=true∨∃x k i o,l.aOz=some x∧x.ev sl= .ptr m k i o:=by
 cases l with
 |call f args=>exact .inl rfl
 |callv x args=>exact .inl rfl
 |callw f args fl=>exact .inl rfl
 |val x=>
  cases x with
  |load t x=>obtain⟨k,i,o,e⟩:=h;exact .inr ⟨x,k,i,o,rfl,e⟩
  |_=>exact h.elim
 |_=>exact h.elim
theorem Ae{l:LOp}{x:aK}(h:l.aOz=some x):l.aAD=x.aAD:=by
 cases l with
 |val y=>
  cases y with
  |load t y=>injection h with h;subst h;rfl
  |_=>cases h
 |_=>cases h
def fC.none:fC:=⟨Ka,WK,WK⟩
structure BF(ops:Array Oper)(n:Nat)(sl0:List V)(res:List fC)(D:Nat→Prop)(sl:List V):Prop where
 len:sl.length=sl0.length
 val:∀j t,j<n→D j→iA ops j=some t→sl.getD t Ka=(res.getD j .none).v
 frame:∀t,(∀j,j<n→D j→iA ops j≠some t)→sl.getD t Ka=sl0.getD t Ka
theorem Ek(sl:List V)(t:Nat)(v:V)(ht:t<sl.length)(u:Nat):(bL sl (some t) v).getD u Ka=if u=t then v else sl.getD u Ka:=by
 simp only[bL,Kc];by_cases e:u=t
 ·subst e;rw[Qg ht,if_pos rfl];rfl
 rw[Qp (fun h=>e h.symm),if_neg e]
theorem wE{sl:List V}{dst:Option Nat}{v:V}(h:∀t,dst=some t→t<sl.length)(u:Nat):(bL sl dst v).getD u Ka=if dst=some u then v else sl.getD u Ka:=by
 cases dst with
 |none=>simp[bL]
 |some t=>
  rw[Ek _ _ _ (h t rfl)];by_cases e:u=t
  ·subst e;simp
  rw[if_neg e,if_neg (fun h=>e (Option.some.inj h).symm)]
theorem tX{ops:Array Oper}{n:Nat}{l:List (aA×List Nat)}{sl0:List V}{res:List fC}(hlen:l.length=n)(aA1:res.length=n)(aXt:∀j lo aAF,l[j]?=some (lo,aAF)→lo.dst=iA ops j)(hin:∀j t,j<n→iA ops j=some t→t<sl0.length)
 (aFT:∀i j t,i<n→j<n→iA ops i=some t→iA ops j=some t→i=j):∀i,i≤n→BF ops n sl0 res (·<i) (((l.zip res).take i).foldl (fun sl p=>bL sl p.1.1.dst p.2.v) sl0)
 |0,_=>⟨Zm,fun j t _ h=>or,fun t _=>Zm⟩
 |i+1,hi=>by
  have ih:=tX hlen aA1 aXt hin aFT i or;have hl:i<(l.zip res).length:=by simp;omega
  rw[List.take_succ_eq_append_getElem hl,Wl];simp only[Ww,List.foldl_nil,List.getElem_zip];generalize ((l.zip res).take i).foldl (fun sl p=>bL sl p.1.1.dst p.2.v) sl0=sl at ih;have hd:(l[i]'or).1.dst=iA ops i:=aXt i _ (l[i]'or).2 (by rw[Km or]);rw[hd];have hs:∀t,iA ops i=some t→t<sl.length:=fun t ht=>by rw[ih.len];exact hin i t or ht
  have hr:res.getD i .none=res[i]'or:=by rw[Kc,Km or];rfl
  refine⟨?_,fun j t hj hji ht=>?_,fun t ht=>?_⟩
  ·cases iA ops i<;>simp[bL,ih.len]
  ·rw[wE hs];by_cases e:j=i
   ·subst e;rw[if_pos ht,hr]
   rw[if_neg (fun h=>e (aFT j i t hj or ht h))];exact ih.val j t hj or ht
  rw[wE hs,if_neg (fun h=>ht i or or h)];exact ih.frame t fun j hj hji=>ht j hj or
structure HN(n nx0:Nat)(h0:Hp)(res:List fC)(D:Nat→Prop)(h:Hp):Prop where
 old:∀m,m<nx0→(∀j c,j<n→D j→(res.getD j .none).con=some c→c.n≠m)→h m=h0 m
 new:∀i,i<n→D i→(∀j c,j<n→D j→(res.getD j .none).con=some c→c.n≠nx0+i)→h (nx0+i)=(res.getD i .none).add
 wrt:∀j c,j<n→D j→(res.getD j .none).con=some c→h c.n=c.new
structure DK(ops:Array Oper)(n:Nat)(res:List fC)(s:St)(K0:Ker)(ds:List Deferred)(listed:Array Bool)(a:Act)(w:World):Prop where
 head:HeadInv .any ops n listed
 size:a.tmps.size=s.sl.length
 ex:∃K sl h,K.w=w∧K0.le K∧fE K sl a∧Rel K h∧(∀m,K.live m→K0.live m∨∃i,i<n∧m=s.nx+i∧listed.getD i false=true)∧
  BF ops n s.sl res (fun j=>listed.getD j false=true) sl∧HN n s.nx s.h res (fun j=>listed.getD j false=true) h
 defers:a.defers=ds
theorem rZ(p q:Nat→Bool)(i:Nat)(hp:p i=true)(hq:q i=false)(hpq:∀x,x≠i→q x=p x):∀l:List Nat,l.Nodup→i∈l→(l.filter p).length=(l.filter q).length+1
 | [],_,h=>by cases h
 |x::l,hnd,h=>by
  rw[List.nodup_cons] at hnd;have same:∀l:List Nat,i∉l→l.filter q=l.filter p:=by
   intro l;induction l with
   |nil=>intro _;rfl
   |cons y l ih=>
    intro h;simp only[Wa,not_or] at h;rw[Qd,Qd,ih h.2,hpq y (fun e=>h.1 e.symm)]
  by_cases hx:x=i
  ·subst hx;rw[Qd,Qd,hp,hq,same l hnd.1];simp
  have hm:i∈l:=by
   rcases Wa.1 h with h|h
   ·exact absurd h.symm hx
   exact h
  have ih:=rZ p q i hp hq hpq l hnd.2 hm;rw[Qd,Qd,hpq x hx];cases p x<;>simp[ih]
section
variable{P:Program}{ops:Array Oper}{n:Nat}{w0:Bool}{l:List (aA×List Nat)}{s:St}{res:List fC}{K0:Ker}
theorem gw(aC6:n≤ops.size)(hl:dN P ops n w0 0 (ops.toList.take n)=some l):∀j lo aAF,l[j]?=some (lo,aAF)→lo.dst=iA ops j∧aAF=oR ops n j:=by
 obtain⟨hll,hlg⟩:=iF _ _ _ hl;intro j lo' aAF hj;have hjn:j<n:=by
  have:=(KC.1 hj).1;rw[hll] at this;simp at this;omega
 have hoj:ops[j]?=some (ops[j]'or):=Kz or;obtain⟨lo2,e1,e2⟩:=hlg j (ops[j]'or) (by rw[KD,if_pos hjn];simp);rw[hj,Qa] at e1;injection e1 with e1;injection e1 with e1 e3;subst e1;obtain⟨g,_,e4⟩:=Kd.1 e2;obtain⟨l2,_,rfl⟩:=Kg.1 e4;refine⟨?_,e3⟩;show(ops[j]'or).dst=_;simp[iA,hoj]
theorem Dr(hB:qT ops n l=true)(hl:dN P ops n w0 0 (ops.toList.take n)=some l)(aAz:∀j t,j<n→iA ops j=some t→t<s.sl.length)(ht:ya P s.h s.nx l s.sl res)
 {ds:List Deferred} {listed:Array Bool} {a:Act} {w:World} (inv:DK ops n res s K0 ds listed a w) (aO6:∀m,K0.live m→m<s.nx) (aBL:∀m b,s.h m=some b→m<s.nx) {i:Nat} (hin:i<n) (hi:i∈Region.ready .any ops listed) {Kn:Act→World→Prop} {Q:Exit→Act→World→Prop}
 (hK:∀a' w',DK ops n res s K0 ds (listed.setIfInBounds i true) a' w'→Kn a' w') {rd:Option Nat} {m:Nat}:wpOpIn (FR rd) m P ops Q i Kn a w:=by
 simp only[qT,Ky,KV,Wz,QG,decide_eq_true_eq] at hB;obtain⟨⟨⟨⟨aO0,aAn⟩,aGb⟩,aEe⟩,aCc⟩:=hB;have aC6:n≤ops.size:=by rcases aAn with h|⟨⟨h,_⟩,_⟩<;>omega
 obtain⟨hun,o,ho,aAc⟩:=mem_ready.1 hi;obtain⟨hll,hlg⟩:=iF _ _ _ hl;have hln:l.length=n:=by rw[hll];simp;omega
 have hrn:res.length=n:=by rw[ht.len,hln]
 have hot:(ops.toList.take n)[i]?=some o:=by rw[KD,if_pos hin];simpa using ho
 obtain⟨lo,hlo,aCM⟩:=hlg i o hot;rw[Qa] at hlo;have hdd:=gw aC6 hl;have hlj:∀j,j<n→∃lo aAF,l[j]?=some (lo,aAF):=fun j hj=>⟨(l[j]'or).1,(l[j]'or).2,Km or⟩;have hrj:∀j,j<n→res[j]?=some (res.getD j .none):=fun j hj=>by rw[Kc,Km or];rfl
 --what the closed test says of each
 have aFK:∀j lo aAF,l[j]?=some (lo,aAF)→(∀t∈lo.aBn.aAD,∀q,q<n→iA ops q=some t→q∈aAF)∧(∀d∈aAF,d<j)∧(∀q lq dq,q<j→l[q]?=some (lq,dq)→cX lo.op aAF q lq.op=true):=by
  intro j lo aAF hj;have hjn:j<n:=by have:=(KC.1 hj).1;omega
  have h2:=aEe j hjn;have hoj:ops[j]?=some (ops[j]'or):=Kz or;simp only[hoj,hj,Ky,KV,Wz,QG,bne_iff_ne,ne_eq,Qj,decide_eq_true_eq] at h2;obtain⟨⟨⟨_,h3⟩,h4⟩,h5⟩:=h2;refine⟨fun t ht q hq e=>(h3 t ht q hq).resolve_left (fun h=>h e),h4,fun q lq dq hq e=>?_⟩;have:=h5 q hq;rw[e] at this;exact this
 obtain⟨aG1,aXw,_⟩:=aFK i _ _ hlo;have aFT:∀i j t,i<n→j<n→iA ops i=some t→iA ops j=some t→i=j:=fun i j t hi hj e e'=>by
  rcases aCc i hi j hj with h|h
  ·rcases h with h|h
   ·simpa using h
   rw[e] at h;cases h
  rw[e,e'] at h;simp at h
 have hd1:∀j,j<n→listed.getD j false=true→∀d,d∈zd1 ops n j→d<n∧listed.getD d false=true:=by
  intro j hj aA0 d hd;have hoj:ops[j]?=some (ops[j]'or):=Kz or;simp only[zd1,hoj,Qh,KW,Qm,QF,Ky,decide_eq_true_eq] at hd;obtain⟨e,⟨he,hb,hn⟩,rfl⟩:=hd;exact⟨hn,inv.head.closed j _ hoj aA0 e (Qc.1 he) hb⟩
 have aDD:∀j,j<n→listed.getD j false=true→∀d,d∈oR ops n j→d<n∧listed.getD d false=true:=by
  intro j hj aA0 d hd;exact j5 ops n (S:=fun d=>d<n∧listed.getD d false=true) j (fun k hk hS d hd=>hd1 k hS.1 hS.2 d hd) ⟨hj,aA0⟩ n hj d hd
 have aDC:∀d,d∈oR ops n i→d<n∧listed.getD d false=true:=by
  intro d hd;have h1:∀d,d∈zd1 ops n i→d<n∧listed.getD d false=true:=by
   intro d hd;simp only[zd1,ho,Qh,KW,Qm,QF,Ky,decide_eq_true_eq] at hd;obtain⟨e,⟨he,hb,hn⟩,rfl⟩:=hd;exact⟨hn,aAc e (Qc.1 he) hb⟩
  have hd':=hd;unfold oR at hd';rw[oT ops n n i hin] at hd';have h2:=(QF.1 hd').2;simp only[QG,Qj,QP] at h2;rcases h2 with h2|⟨c,h2,h3⟩
  ·exact h1 d h2
  have hc:=h1 c h2;by_cases hci:c<i
  ·rw[oT ops n i c hci,←oT ops n n c hc.1] at h3;exact aDD c hc.1 hc.2 d h3
  rw[Kc,QA (by rw[mI];omega)] at h3;cases h3
 have aGo:¬listed.getD i false=true:=fun h=>by rw[getD_both hun] at h;cases h
 obtain⟨K,sl,h,rfl,hle,hsl,hrel,aBt,hsa,hha⟩:=inv.ex;have aEa:=tX (ops:=ops) (sl0:=s.sl) hln hrn (fun j lo aAF hj=>(hdd j lo aAF hj).1) aAz aFT;have aBf:=aEa i or;have hri:=hrj i hin;have hok:=ht.ok i _ _ _ hlo hri;have bCQ:∀j,j≤n→∃slt,slt=((l.zip res).take j).foldl (fun sl p=>bL sl p.1.1.dst p.2.v) s.sl:=fun j _=>⟨_,rfl⟩
 --what it looks at is as in the text's order
 have aEj:eD (((l.zip res).take i).foldl (fun sl p=>bL sl p.1.1.dst p.2.v) s.sl) sl (lo.aAt w0 (qZ ops n i)).aBn.aAD:=by
  intro u hu;by_cases hex:∃j,j<n∧iA ops j=some u
  ·obtain⟨j,hj,hju⟩:=hex;have aXx:j∈oR ops n i:=aG1 _ hu j hj hju;rw[aBf.val j u hj (aXw j aXx) hju,hsa.val j u hj (aDC j aXx).2 hju]
  rw[aBf.frame u (fun j hj _ e=>hex ⟨j,hj,e⟩),hsa.frame u (fun j hj _ e=>hex ⟨j,hj,e⟩)]
 have aCb:=(w6 aEj).1 (Ax hok);have aAJ:¬K.live (s.nx+i):=by
  intro hl;rcases aBt _ hl with h|⟨i',hi',e,hl'⟩
  ·have:=aO6 _ h;omega
  have:i'=i:=or;subst this;exact aGo hl'
 --what is taken is there,and is taken once
 have aGg:∀j,j<n→∀c,(res.getD j .none).con=some c→(∀q,q<j→∀c',(res.getD q .none).con=some c'→c'.n≠c.n)∧((c.n<s.nx∧s.h c.n=some c.old)∨∃d∈oR ops n j,d<j∧c.n=s.nx+d∧(res.getD d .none).add=some c.old):=by
  intro j hj c hc;obtain⟨loj,dpj,hlj⟩:=hlj j hj;have hk:=ht.tok j _ _ _ c hlj (hrj j hj) hc;have hd2:=(hdd j _ _ hlj).2;obtain⟨h1,h2⟩:=hk;refine⟨fun q hq c' hc' e=>?_,?_⟩
  ·refine nT.1 h1 c' (Qm.2 ⟨res.getD q .none,?_,hc'⟩) e.symm;rw[Kc,Km or];exact QN.2 ⟨q,or,rfl⟩
  rcases h2 with h2|⟨d,hd,h3,h4⟩
  ·exact .inl h2
  rw[hd2] at hd;have hdj:d<j:=(aFK j _ _ hlj).2.1 d (by rw[hd2];exact hd);refine .inr ⟨d,hd,hdj,h3,?_⟩;simp only[Kc,Wj,KD,if_pos hdj] at h4;rw[hrj d or] at h4;exact h4
 have aFL:∀j,j<n→listed.getD j false=true→∀c c',(res.getD j .none).con=some c→(res.getD i .none).con=some c'→c.n≠c'.n:=by
  intro j hj aA0 c c' hc hc' e;rcases Wm j i with h|h|h
  ·exact(aGg i hin c' hc').1 j h c hc e
  ·subst h;exact aGo aA0
  exact(aGg j hj c hc).1 i h c' hc' e.symm
 have aHA:∀c,(res.getD i .none).con=some c→h c.n=some c.old:=by
  intro c hc;rcases(aGg i hin c hc).2 with⟨h1,h2⟩|⟨d,h1,h2,h3,h4⟩
  ·rw[hha.old c.n h1 (fun j c' hj aA0 hc'=>aFL j hj aA0 c' c hc' hc)];exact h2
  rw[h3,hha.new d (aDC d h1).1 (aDC d h1).2 (fun j c' hj aA0 hc'=>by rw[←h3];exact aFL j hj aA0 c' c hc' hc)];exact h4
 --what it looks at in memory is as it was
 have aGa:∀m b,lO s.h ((res.take i).map (·.con)) m=some b→b.mem=true→((∃es c,b= .mp es c)∨(lo.aAt w0 (qZ ops n i)).op.aBc sl m)→h m=some b:=by
  intro m b hm aAm htc;obtain⟨h1,h2⟩:=vF hm;have hlt:=aBL m _ h2;rw[hha.old m hlt (fun j c hj aA0 hc e=>?_)]
  ·exact h2
  rcases Wm j i with hji|hji|hji
  ·refine nT.1 h1 c (Qm.2 ⟨res.getD j .none,?_,hc⟩) e.symm;rw[Kc,Km or];exact QN.2 ⟨j,or,rfl⟩
  ·subst hji;exact aGo aA0
  have hold:c.old=b:=by
   rcases(aGg j hj c hc).2 with⟨_,h4⟩|⟨d,_,_,h4,_⟩
   ·rw[e,h2] at h4;injection h4 with h4;exact h4.symm
   omega
  have hnd:i∉oR ops n j:=fun hd=>aGo (aDD j hj aA0 i hd).2;obtain⟨loj,dpj,hlj⟩:=hlj j hj;have hd2:=(hdd j _ _ hlj).2;have hah:=(aFK j _ _ hlj).2.2 i _ _ hji hlo;have aY3:=ht.ok j _ _ _ hlj (hrj j hj);have hds:=Dq aY3 hc;have aHB:dpj.contains i=false:=by
   rw[hd2];cases hcc:(oR ops n j).contains i with
   |false=>rfl
   |true=>exact absurd (Qj.1 hcc) hnd
  rcases Fm hds hc with h5|⟨⟨ak,aes,aX3⟩,h5⟩
  ·rw[hold] at h5;rw[h5] at aAm;cases aAm
  replace htc:=htc.resolve_left (by rintro⟨es,cc,rfl⟩;rw[hold] at aX3;cases aX3)
  rcases h5 with⟨t,x,v,h5⟩|⟨f,args,fl,h5,h6⟩
  ·simp only[cX,aHB,WB,h5,Ky,QM,Option.isNone_iff_eq_none] at hah;rcases ck htc with h7|⟨x,_,_,_,h7,_⟩
   ·rw[hah.2] at h7;cases h7
   rw[hah.1] at h7;cases h7
  simp only[cX,aHB,WB,h5,Ky,QM] at hah;rcases ck htc with h7|⟨x,kk,ii,oo,h7,h8⟩
  ·rw[hah.1] at h7;cases h7
  rw[h7] at hah;simp only[QP] at hah;obtain⟨_,y,hy,hxy⟩:=hah;obtain⟨p,rfl,rfl⟩:∃p,x= .slot p∧y= .slot p:=by
   unfold tu at hxy;split at hxy
   ·rename_i p q;exact⟨p,rfl,by rw[eq_of_beq hxy]⟩
   cases hxy
  have hps:p∈(lo.aAt w0 (qZ ops n i)).aBn.aAD:=by
   unfold aA.aAD;show p∈_++(lo.aAt w0 (qZ ops n i)).op.aBn.aAD;rw[LOp.aFA h7,Ae h7];exact KO.2 (.inr (by simp[aK.aAD]))
  have hpj:(((l.zip res).take j).foldl (fun sl p=>bL sl p.1.1.dst p.2.v) s.sl).getD p Ka=sl.getD p Ka:=by
   rw[←aEj p hps];have htj:=aEa j or;by_cases hex:∃q,q<n∧iA ops q=some p
   ·obtain⟨q,hq,hqp⟩:=hex;have hqi:=aXw q (aG1 p hps q hq hqp);rw[htj.val q p hq or hqp,aBf.val q p hq hqi hqp]
   rw[htj.frame p (fun q hq _ e=>hex ⟨q,hq,e⟩),aBf.frame p (fun q hq _ e=>hex ⟨q,hq,e⟩)]
  have h8':(aK.slot p).ev (((l.zip res).take j).foldl (fun sl p=>bL sl p.1.1.dst p.2.v) s.sl)= .ptr m kk ii oo:=by
   show List.getD _ p Ka=_;rw[hpj];exact h8
  exact h6 _ hy m kk ii oo h8' e.symm
 have aG6:i<listed.size:=by rw[inv.head.size];exact(KY.1 ho).1
 have aAQ:∀j,(listed.setIfInBounds i true).getD j false=true↔j=i∨listed.getD j false=true:=by
  intro j;by_cases e:j=i
  ·subst e;simp only[true_or,iff_true,Ke,Qw,aG6,if_true,KW]
  rw[getD_set_ne false (fun h=>e h.symm)];simp[e]
 have hzi:iA ops i=o.dst:=by simp[iA,ho]
 have adv:∀(K':Ker) (cv:Value) (h':Hp),K.le K'→VR K' (res.getD i .none).v cv→Rel K' h'→(∀m,K'.live m→K.live m∨m=s.nx+i)→
  (∀m,m≠s.nx+i→(∀c,(res.getD i .none).con=some c→m≠c.n)→h' m=h m)→h' (s.nx+i)=(res.getD i .none).add→(∀c,(res.getD i .none).con=some c→c.n≠s.nx+i→h' c.n=c.new)→
  DK ops n res s K0 ds (listed.setIfInBounds i true) (a.put o.dst cv) K'.w:=by
  intro K' cv h' q1 q2 q3 q4 q6 q7 q8;have aY1:(a.put o.dst cv).tmps.size=a.tmps.size:=by cases o.dst<;>simp[Act.put]
  have aPX:(a.put o.dst cv).defers=a.defers:=by cases o.dst<;>rfl
  refine⟨inv.head.set hi hin,by rw[aY1];exact inv.size,⟨K',bL sl o.dst (res.getD i .none).v,h',rfl,hle.trans q1,(hsl.mono q1).put q2 o.dst,q3,?_,?_,?_⟩,by rw[aPX];exact inv.defers⟩
  ·intro m hm;rcases q4 m hm with e2|e2
   ·rcases aBt m e2 with h|⟨i',a1,a2,a3⟩
    ·exact .inl h
    exact .inr ⟨i',a1,a2,(aAQ i').2 (.inr a3)⟩
   exact .inr ⟨i,hin,e2,(aAQ i).2 (.inl rfl)⟩
  ·have aXe:∀t,o.dst=some t→t<sl.length:=fun t ht=>by rw[hsa.len];exact aAz i t hin (by rw[hzi];exact ht)
   refine⟨?_,fun j t hj aA0 hjt=>?_,fun u hu=>?_⟩
   ·cases o.dst<;>simp[bL,hsa.len]
   ·rw[wE aXe];by_cases e:j=i
    ·subst e;rw[if_pos (by rw[←hzi];exact hjt)]
    rw[if_neg (fun h=>e (aFT j i t hj hin hjt (by rw[hzi];exact h)))];rcases(aAQ j).1 aA0 with h|h
    ·exact absurd h e
    exact hsa.val j t hj h hjt
   rw[wE aXe,if_neg (fun h=>hu i hin ((aAQ i).2 (.inl rfl)) (by rw[hzi];exact h))];exact hsa.frame u fun j hj aA0=>hu j hj ((aAQ j).2 (.inr aA0))
  refine⟨fun m hm hc=>?_,fun i' hi' hl' hc=>?_,fun j c hj aA0 hc=>?_⟩
  ·rw[q6 m or (fun c hq e=>hc i c hin ((aAQ i).2 (.inl rfl)) hq e.symm)];exact hha.old m hm fun j c hj aA0=>hc j c hj ((aAQ j).2 (.inr aA0))
  ·by_cases e:i'=i
   ·subst e;exact q7
   rw[q6 (s.nx+i') or (fun c hq e=>hc i c hin ((aAQ i).2 (.inl rfl)) hq e.symm)];rcases(aAQ i').1 hl' with h|h
   ·exact absurd h e
   exact hha.new i' hi' h fun j c hj aA0=>hc j c hj ((aAQ j).2 (.inr aA0))
  by_cases e:j=i
  ·subst e;refine q8 c hc fun e=>?_;rcases(aGg j hj c hc).2 with⟨h1,_⟩|⟨d,_,h2,h3,_⟩<;>omega
  have aPg:=((aAQ j).1 aA0).resolve_left e;have hne:c.n≠s.nx+i:=fun e2=>by
   rcases(aGg j hj c hc).2 with⟨h1,_⟩|⟨d,h1,h2,h3,_⟩
   ·omega
   have:d=i:=or;subst this;exact aGo (aDD j hj aPg d h1).2
  rw[q6 c.n hne (fun c' hc'=>aFL j hj aPg c c' hc hc')];exact hha.wrt j c hj aPg hc
 obtain⟨g,hg,aCM⟩:=Kd.1 aCM;obtain⟨l',hl',rfl⟩:=Kg.1 aCM;have go:(l'.aAt w0 (qZ ops n i)).aBn.aAd P sl (lO s.h ((res.take i).map (·.con))) (s.nx+i) (·=res.getD i .none)→o.wpIn (FR rd) m P a K.w Kn Q:=fun aAB=>
  (H7 (nx:=s.nx+n) (by show jX P o=some (l'.aAt w0 (qZ ops n i)).aBn.base;rw[LOp.aC1,LOp.aCf (qj hl')];exact hl') ⟨hrel.size,hsl.2⟩ hrel aAJ (fun m hm=>by
    rcases aBt m hm with h|⟨i',a1,a2,_⟩
    ·have:=aO6 m h;omega
    omega) or (fun m k es h1 h2=>aGa m k es h1 (by rw[LOp.aCa] at h2;exact h2)) aHA aAB).go rd m Kn Q fun K' cv h' q1 q2 q3 q4 q6 q7 q8=>hK _ _ (adv K' cv h' q1 q2 q3 q4 q6 q7 q8)
 have skip:(⟨Ka,none,none⟩:fC)=res.getD i .none→Kn (a.put o.dst Kj) K.w:=fun hd=>
  hK _ _ (adv K Kj h (.refl K) (by rw[←hd];exact .undef K) hrel (fun m hm=> .inl hm) (fun _ _ _=>rfl) (by
   rw[←hd];show h (s.nx+i)=none;cases e:h (s.nx+i) with
   |none=>rfl
   |some b=>exact absurd (hrel.lt _ _ e) aAJ) (fun q hq=>by rw[←hd] at hq;cases hq))
 unfold wpOpIn;simp only[ho];unfold yS at hg;unfold fQ at aCb;simp only[aA.aAt,aA.aBn] at aCb;cases hgd:o.guard with
 |none=>
  rw[hgd] at hg;injection hg with hg;subst hg;rw[if_pos (by simp[Region.wanted,hgd])];exact(go aCb)
 |some p=>
  obtain⟨j,want⟩:=p;rw[hgd] at hg;simp only at hg;cases htg:(ops[j]?).bind (·.dst) with
  |none=>simp[htg] at hg
  |some tg=>
   rw[htg] at hg;injection hg with hg;subst hg;simp only at aCb;have hvr:=hsl.2 tg;have hy:yielded ops a.tmps j=match a.tmps.getD tg Kj with| .bool b=>some b|_=>none:=by
    unfold yielded;rw[htg];simp only[Wt,Ke];cases a.tmps[tg]? with
    |none=>rfl
    |some x=>cases x<;>rfl
   by_cases hw:Region.wanted o (yielded ops a.tmps)=true
   ·rw[if_pos hw];simp only[Region.wanted,hgd,hy] at hw;split at aCb
    ·rename_i b hb;rw[hb] at hvr;generalize a.tmps.getD tg Kj=cv at hvr hw;cases hvr;simp at hw;rw[if_pos hw] at aCb;exact(go aCb)
    ·rename_i vs hb;exfalso;rw[hb] at hvr;generalize a.tmps.getD tg Kj=cv at hvr hw;cases hvr;simp at hw
    exact aCb.elim
   rw[if_neg hw];simp only[Region.wanted,hgd,hy] at hw;split at aCb
   ·rename_i b hb;rw[hb] at hvr;generalize a.tmps.getD tg Kj=cv at hvr hw;cases hvr;simp at hw;rw[if_neg (by simpa using hw)] at aCb;exact⟨fun _ _=>trivial,skip aCb⟩
   ·exact⟨fun _ _=>trivial,skip aCb⟩
   exact aCb.elim
end
end Go.Proofs.YtlhedpgobaellaaGreatDoor
