/-
Texts of this proof,one behind the other. No conditions.
-/
import Derived.Test.YtgbiopfghdilnaaGreatDoorKd
import Derived.Test.YtgbiopfghdilnaaGreatDoorKu
import Derived.Test.YtgbiopfghdilnaaGreatDoorKo
import Derived.Test.YtgbiopfghdilnaaGreatDoorKlb
open List renaming take_succ_eq_append_getElem→Ka,length_take→Kb,map_append→Kc,take_of_length_le→Kd,map_nil→Ke,getD_eq_getElem?_getD→Kf,map_cons→Kg,append_nil→Kh,take_zero→Kj,getElem_mem→Ko,flatMap_map→Kp,flatMap_def→Kq,length_map→Ks
open Nat renaming le_refl→Ki,lt_or_ge→Kk,zero_le→Km
open Nat renaming reduceAdd→jA,reduceSub→jB,reduceLT→jC,reduceLeDiff→jD,reduceEqDiff→jE
open Int renaming reduceToNat→jF,toNat_natCast→jG,natCast_add→jH,natCast_one→jI,natCast_zero→jJ
open List renaming length_map→jK,length_cons→jL,length_nil→jM,replicate_succ→jN,replicate_zero→jO,cons_append→jP,nil_append→jQ
set_option linter.unusedSimpArgs false
set_option linter.unusedVariables false
set_option linter.unusedSectionVars false
set_option maxHeartbeats 8000000
namespace Go.Proofs.YtgbiopfghdilnaaGreatDoor
open Go.RowKit Go.Sort
attribute [local irreducible] IntKind.wrap
set_option maxHeartbeats 4000000
theorem db(a:Am)(ha:a.l.length≤1000000)(o:Own)(s:List ByteArray)(hs:s.length≤1000000000)(h:Hp):aI Tryz.prog 50 [a.v, .sl .leaf o (s.map V.str)] h (lst .leaf ((nS a s).map kV)):=by
 refine cP (fun L=>bO (fun L=>aS (f:=kV) (fun _=>trivial) _) L) fun h' nx hh=>aC L.aWR fun hd=>?_;obtain⟨ar,ao,ts⟩:=a;have ha:ts.length≤1000000:=ha;simp only[jL,jM,jA,jB,jN,jO,jP,jQ,V.undef];have hd:aQ h' nx:=hd;refine aue (e3 Am.v.eq_1 trs.eq_1 (@jK Tr V)) ?_
 refine aO (fun q:Nat×Own=>aD 37 0 [(1, .sl .leaf o (s.map V.str)),(2, .ptr nx (.agg 2) 0 0),(4, .sl .leaf .nil []),(5, .sl .leaf q.2 ((gH s 0 (ts.take q.1)).map kV)),(6, .int .i64 q.1)])
  (fun q hp nx1=>q.1≤ts.length∧nx+1≤nx1∧aQ hp nx1∧Hp.same nx h' hp∧hp nx=some (.arr (.agg 2) [.agg [.str ar, .sl (.agg 4) ao (ts.map Tr.v)]])∧Acc hp (nx+1) q.2 ((gH s 0 (ts.take q.1)).map kV))
  (fun q=>ts.length-q.1) (0, .nil) ⟨Km _,Zw,by exact dmo hd,by exact kep Hp.same.aA0,by simp only[go_sem,reduceIte,jA,jB,jC,jD,reduceCtorEq,jE,jF], .inl ⟨rfl,rfl⟩⟩ (by simp only[WkL,aD,jH,jI,jJ,Kj,gH,go_sem,reduceIte,jA,jB,jC,jD,reduceCtorEq,jE,jF]) ?_
 rintro⟨i,oo⟩ hp nx1 ⟨hi,hnx,hdm,hsm,hbx,aAK⟩;generalize hQ:aX _ _ _ _ _=Q0;dsimp only at hi aAK;simp only[aD,go_sem,reduceIte,jA,jB,jC,jD,reduceCtorEq,jE,jF];have n1:nx<nx1:=or;rcases Kk i ts.length with hlt|hge
 ·have hc:decide ((i:Int)<(ts.length:Int))=true:=dct;have hg:=aM Tr.v ts i hlt;have hw:IntKind.i64.wrap ((i:Int)+1)=((i+1:Nat):Int):=wrp;have aAR:gH s 0 (ts.take (i+1))=gH s 0 (ts.take i)++(if (decide (ts[i].x.size=0)||bB ts[i].x s)=true then [i] else []):=by
   rw[Ka hlt,tT,Kb,Nat.min_eq_left or,Nat.zero_add]
  have hlen:(gH s 0 (ts.take i)).length≤1000000:=by
   have:=pS s (ts.take i) 0;rw[Kb] at this;omega
  generalize gH s 0 (ts.take i)=W at*;generalize ts[i]=T at hg aAR;have C1:=fun h=>jV o s hs T.x h;have hml:(W.map kV).length=W.length:=jK ..;have hTx:T.v.cell 0= .str T.x:=rfl;generalize T.v=X at*;by_cases ht:(decide (T.x.size=0)||bB T.x s)=true
  ·rw[if_pos ht] at aAR;by_cases h1:T.x.size=0
   ·have h1:((T.x.size:Int)==0)=true:=bqt;refine aue (e13 hc hg hlt hTx h1 hw (@jK Tr V) jG hlen hml hbx n1 trivial) ?_;rw[←hQ];exact aE (i+1,_) Zw ⟨hlt,or,dmo hdm,rM hsm aAK,Bm aAK hbx or n1,by dsimp only;rw[aAR,Kc];exact Acc.new _ Zm or⟩ (by simp only[WkL,aD,jH,jI,jJ,aAR,Kc,Kg,Ke,kV,go_sem,reduceIte,jA,jB,jC,jD,reduceCtorEq,jE,jF])
   have h2:bB T.x s=true:=by rw[decide_eq_false h1] at ht;simpa using ht
   have h1:((T.x.size:Int)==0)=false:=bqf;rw[h2] at C1;refine aue (e13 hc hg hlt hTx h1 hw (@jK Tr V) jG hlen hml hbx n1 trivial) ?_;rw[←hQ];exact aE (i+1,_) Zw ⟨hlt,or,dmo hdm,rM hsm aAK,Bm aAK hbx or n1,by dsimp only;rw[aAR,Kc];exact Acc.new _ Zm or⟩ (by simp only[WkL,aD,jH,jI,jJ,aAR,Kc,Kg,Ke,kV,go_sem,reduceIte,jA,jB,jC,jD,reduceCtorEq,jE,jF])
  rw[if_neg ht,Kh] at aAR;simp only[Bool.or_eq_true,not_or,Bool.not_eq_true,decide_eq_false_iff_not] at ht;have h1:((T.x.size:Int)==0)=false:=bqf (by have:=ht.1;omega);rw[ht.2] at C1;refine aue (e13 hc hg hlt hTx h1 hw (@jK Tr V) jG hlen hml hbx n1 trivial) ?_;rw[←hQ];exact aE (i+1,oo) Zw ⟨hlt,or,dmo hdm,kep hsm,by simp only[hbx,n1,go_sem,reduceIte,jA,jB,jC,jD,reduceCtorEq,jE,jF],by dsimp only;rw[aAR];exact acc aAK hdm⟩ (by simp only[WkL,aD,jH,jI,jJ,aAR,go_sem,reduceIte,jA,jB,jC,jD,reduceCtorEq,jE,jF])
 have hc:decide ((i:Int)<(ts.length:Int))=false:=dcf;rw[Kd or] at aAK⊢;refine aue (e4 hc hbx n1 (@jK Tr V)) ?_;rw[←hQ];refine au ?_;exact aB h' (hsm.le hd (Hp.le_refl _)) ⟨kA aAK,Hp.le_refl _⟩
set_option maxHeartbeats 4000000
def PS.v9(o:Own)(s:PS):V:= .agg [.int .i64 s.k, .int .i64 s.i, .sl .leaf o (s.hv.map V.str), .sl .leaf .free (s.wt.map V.str),lst .leaf (s.ky.map kV)]
def o9(i:Nat):Own:=if i=0 then .nil else .free
def vs9(l:List PS):List V:=l.mapIdx fun i s=>s.v9 (o9 i)
theorem Br(l:List PS)(s:PS):vs9 (l++[s])=vs9 l++[s.v9 (o9 l.length)]:=by unfold vs9;rw[List.mapIdx_concat]
theorem pP(l:List PS):(vs9 l).length=l.length:=by unfold vs9;exact List.length_mapIdx
theorem Az(L:Nat→Prop)(i:Nat)(s:PS):(s.v9 (o9 i)).names L:=by
 have h:∀n,o9 i= .tok n→L n:=fun n e=>by unfold o9 at e;split at e<;>cases e
 exact⟨trivial,trivial,⟨h,aS (f:=V.str) (fun _=>trivial) _⟩,⟨fun n e=>(by cases e),aS (f:=V.str) (fun _=>trivial) _⟩,bO (fun L=>aS (f:=kV) (fun _=>trivial) _) L,trivial⟩
theorem x9(L:Nat→Prop)(l:List PS):bF L (vs9 l):=by
 refine gQ.2 fun x hx=>?_;unfold vs9 at hx;obtain⟨i,hi,rfl⟩:=List.mem_mapIdx.1 hx;exact Az L i _
theorem um{h:Hp}{n0:Nat}{o:Own}{k:Sh}{es:List V}(a:Acc h n0 o es):(V.sl k o es).loose=lst k es:=by
 rcases a with⟨rfl,rfl⟩|⟨h1,id,_,rfl,_⟩
 ·rfl
 cases es with
 |nil=>exact absurd rfl h1
 |cons a b=>rfl
def BI(r:Ru):List PS×Int:=if bM r=false then ([],2) else if bY r (dJ r) false≠ [] then ([],8) else (nT r,0)
def BH(r:Ru):V:= .tup [lst (.agg 5) (vs9 (BI r).1), .int .i64 (BI r).2]
theorem ra(l:Li):l.vars.Nodup:=fy List.nodup_nil
theorem AW{hv vs:List ByteArray}{j:Nat}(hn:vs.Nodup)(hj:j<vs.length):bB vs[j] (hv++(vs.take j).filter fun v=> !bB v hv)=bB vs[j] hv:=by
 have h1:vs[j]∉vs.take j:=by
  have h2:(vs.take (j+1)).Nodup:=(List.take_sublist _ _).nodup hn;rw[Ka hj,List.nodup_append] at h2;exact fun h=>h2.2.2 _ h _ (List.mem_singleton.2 rfl) rfl
 rw[Bool.eq_iff_iff,dB,dB,List.mem_append,List.mem_filter];exact⟨fun h=>h.elim id fun h=>absurd h.1 h1, .inl⟩
theorem Bv{l:Li}(h:bJ l=true)(k:Nat)(hv:List ByteArray):(iT l k hv).k=l.k:=by
 unfold iT;dsimp only;rcases yP h with e|e|e<;>rw[e]<;>rfl
set_option maxHeartbeats 8000000 in
theorem BG(r:Ru)(hs:r.sm)(h:Hp):aI Tryz.prog 14 [r.v] h (BH r):=by
 refine dM (fun L=>⟨bO (fun L=>x9 L _) L,trivial,trivial⟩) fun h' nx hh=>aC L.g8z fun hd=>?_;have hd:aQ h' nx:=hd;have C1:=fun h=>yg r hs h;have C2:=fun hr h=>nr r hr h;simp only[jL,jM,jA,jB,jN,jO,jP,jQ,V.undef];unfold BH BI;by_cases hm0:jn r=0;rotate_left
 ·have hof:(if bM r=false then (([]:List PS),(2:Int)) else if bY r (dJ r) false≠ [] then ([],8) else (nT r,0))=([],jn r):=by
   unfold jn at hm0⊢;split
   ·rfl
   rename_i e;rw[if_neg e] at hm0;split
   ·rfl
   rename_i e2;rw[if_neg e2] at hm0;exact absurd rfl hm0
  rw[hof];have hne:(jn r != 0)=true:=bnt;generalize jn r=N at*;have hf:r.v.fits (.agg 6)=true:=rfl;obtain⟨X,hX⟩:∃X,r.v=X:=⟨_,rfl⟩;rw[hX] at C1 hf⊢;refine aue (e2 hf hne) ?_;exact iX h' (leo hd) ⟨rfl,leo hd⟩
 have hrr:bM r=true:=by
  cases e:bM r with
  |true=>rfl
  |false=>unfold jn at hm0;rw[e,if_pos rfl] at hm0;cases hm0
 have hsv:bY r (dJ r) false=[]:=by
  unfold jn at hm0;rw[hrr,if_neg Zm] at hm0;split at hm0
  ·cases hm0
  rename_i e;exact Classical.not_not.1 e
 rw[hrr,if_neg Zm,hsv,if_neg Zm];obtain⟨b1,b2,b3⟩:=cF hrr
 replace C2:=C2 hrr
 obtain⟨oo,hoo⟩:=bR .leaf ((cK r).map kV);rw[hoo] at C2;rw[hm0] at C1;have hol:(cK r).length≤8:=by
  unfold cK mE;rw[jK];exact Nat.le_trans (lG ..) b2
 have hz:((0:Int) != 0)=false:=rfl;simp only[Ru.v] at C1 C2;refine aue (e4 Ru.v.eq_1 trs.eq_1 (@jK Nat V) hz) ?_;have aC9:=yZ r;have aFA:nT r=eV r (cK r) []:=rfl;rw[aFA];generalize cK r=O at*;have hbl:∀i,(cN r (O.take i) []).length≤16777264:=fun i=>by
  have h1:=nO r b3 (O.take i) [] fun k hk=>aC9 k (List.mem_of_mem_take hk);have h2:(O.take i).length*2097158≤8*2097158:=Nat.mul_le_mul_right _ (by rw[Kb];omega);simp only[jM] at h1;omega
 clear C1 C2
 refine aO (fun q:Nat×Own=>aD 86 0 [(1, .ptr nx (.agg 6) 0 0),(2, .sl (.agg 5) .nil []),(3, .int .i64 0),(5, .sl (.agg 5) q.2 (vs9 (eV r (O.take q.1) []))),(6, .sl .leaf (o9 q.1) ((cN r (O.take q.1) []).map V.str)),(7, .sl .leaf oo (O.map kV)),(8, .int .i64 q.1)])
  (fun q hp nx1=>q.1≤O.length∧nx+1≤nx1∧aQ hp nx1∧Hp.same nx h' hp∧hp nx=some (.arr (.agg 6) [.agg [.str r.h.r, .sl (.agg 4) r.h.o (r.h.l.map Tr.v), .int .i64 r.g, .int .i64 r.c, .sl (.agg 17) r.o (r.b.map Li.v), .int .i64 r.at_]])∧Acc hp (nx+1) q.2 (vs9 (eV r (O.take q.1) [])))
  (fun q=>O.length-q.1) (0, .nil) ⟨Km _,Zw,by exact dmo hd,by exact kep Hp.same.aA0,by simp only[go_sem,reduceIte,jA,jB,jC,jD,reduceCtorEq,jE,jF], .inl ⟨rfl,rfl⟩⟩ (by simp only[WkL,aD,jH,jI,jJ,Kj,eV,cN,vs9,List.mapIdx_nil,o9,go_sem,reduceIte,jA,jB,jC,jD,reduceCtorEq,jE,jF]) ?_
 rintro⟨i,oS⟩ hp nx1 ⟨hi,hnx,hdm,hsm,hb0,haS⟩;generalize hQ:aX _ _ _ _ _=Q0;dsimp only at hi haS;simp only[aD,go_sem,reduceIte,jA,jB,jC,jD,reduceCtorEq,jE,jF];have n1:nx<nx1:=or;rcases Kk i O.length with hlt|hge;rotate_left
 ·have hc:decide ((i:Int)<(O.length:Int))=false:=dcf;rw[Kd or] at haS⊢;refine aue (e2 hc (@jK Nat V)) ?_;rw[←hQ];refine au ?_;refine iX h' (hsm.le hd (Hp.le_refl _)) ⟨?_,Hp.le_refl _⟩;have:=um (k:= .agg 5) haS;exact congrArg (fun x=>V.tup [x, .int .i64 0]) this
 have hc:decide ((i:Int)<(O.length:Int))=true:=dct;have hg:(O.map kV).getD i (.tup [])= .int .i64 O[i]:=aM kV O i hlt;have hw:IntKind.i64.wrap ((i:Int)+1)=((i+1:Nat):Int):=wrp;have hkb:=aC9 O[i] (Ko _);have hpa:eV r (O.take (i+1)) []=eV r (O.take i) []++[iT (r.b.getD O[i] default) O[i] (cN r (O.take i) [])]:=by rw[Ka hlt,uV]
 have hba:cN r (O.take (i+1)) []=nmL (cN r (O.take i) []) (r.b.getD O[i] default).ts:=by rw[Ka hlt,rR]
 have hvl:=hbl i;have hpi:(eV r (O.take i) []).length=i:=by rw[pX,Kb];omega
 generalize cN r (O.take i) []=hv at*;generalize eV r (O.take i) []=ps at*;have hD:r.b.getD O[i] default=r.b[O[i]]:=by rw[Kf,List.getElem?_eq_getElem hkb];rfl
 have hg2:=aM Li.v r.b O[i] hkb;have hrl:=b3 r.b[O[i]] (Ko _);rw[hD] at hpa hba;generalize r.b[O[i]]=l at hg2 hrl hpa hba;generalize O[i]=k at hg hkb hg2 hpa;have hkk:=Bv hrl k hv;have hlv:=gM hrl;have hf:=Li.aAF l;obtain⟨o1,ho1⟩:=bR .leaf (l.vars.map V.str);have C1:∀h:Hp,aI Tryz.prog 48 [l.v] h (.sl .leaf o1 (l.vars.map V.str)):=fun h=>ho1▸pE l hrl h;obtain⟨T,hT,hk0,hat⟩:∃T,l.v= .agg T∧T.getD 0 (.tup [])= .int .i64 l.k∧(T.drop 1).take 2=[.str l.a.r,trs l.a.o l.a.l]:=⟨_,rfl,rfl,rfl⟩;rw[hT] at hg2 hf C1;refine aun (e11 hc hg hlt hb0 n1 hg2 hf hkb hk0 (@jK Nat V) (e2 (@jK Li V) jG)) ?_;generalize hH:Hp.set _ _ _=H;have hk1:∀m,m<nx1→H m=hp m:=fun m hm=>by rw[←hH];simp only[Hp.set];rw[if_neg or,if_neg or,if_neg or,if_neg or,if_neg or]
 have hb8:H (nx1+8)=some (.arr (.agg 17) [.agg T]):=by rw[←hH];simp only[go_sem,reduceIte,jA,jB,jC,jD,reduceCtorEq,jE,jF]
 have aUh:H (nx1+18)=some (.arr (.agg 5) [.agg [.int .i64 l.k, .int .i64 k, .sl .leaf (o9 i) (hv.map V.str), .sl .leaf .nil [], .sl .leaf .nil []]]):=by rw[←hH];simp only[go_sem,reduceIte,jA,jB,jC,jD,reduceCtorEq,jE,jF]
 have aUg:H (nx1+20)=some .tip:=by rw[←hH];simp only[go_sem,reduceIte,jA,jB,jC,jD,reduceCtorEq,jE,jF]
 have hdH:aQ H (nx1+21):=by rw[←hH];exact dmo hdm
 clear hH;refine uX (id:=nx1+20) rfl aUg rfl (by simp only[jK,jM];omega) ?_;refine Zn ?_;have hof:(V.sl .leaf (o9 i) (hv.map V.str)).aAD=true:=rfl;refine aue (e5 hb8 hf aUh (@jK ByteArray V) hc) ?_;have hwt:nmL hv l.ts=hv++l.vars.filter fun v=> !bB v hv:=nu hv l;have hnd:=ra l;generalize hSQ:lJ (lwp Tryz.prog _) _=SQ
 refine aO (fun q:Nat×Nat=>aD 86 0 [(1, .ptr nx (.agg 6) 0 0),(2, .sl (.agg 5) .nil []),(3, .int .i64 0),(5, .sl (.agg 5) oS (vs9 ps)),(6, .sl .leaf (o9 i) (hv.map V.str)),(7, .sl .leaf oo (O.map kV)),(8, .int .i64 i),(9, .ptr (nx1+8) (.agg 17) 0 0),(10, .ptr (nx1+18) (.agg 5) 0 0),(11, .sl .leaf o1 (l.vars.map V.str)),(12, .int .i64 q.1)])
  (fun q hp3 nx3=>q.1≤l.vars.length∧nx1+22≤nx3∧aQ hp3 nx3∧(∀m,m<nx1+18→hp3 m=H m)∧hp3 (nx1+18)=some (.arr (.agg 5) [.agg [.int .i64 l.k, .int .i64 k, .sl .leaf (o9 i) (hv.map V.str), .sl .leaf (.tok q.2) ((hv++(l.vars.take q.1).filter fun v=> !bB v hv).map V.str), .sl .leaf .nil []]])∧nx1+21≤q.2∧hp3 q.2=some .tip)
  (fun q=>l.vars.length-q.1) (0,nx1+21) ⟨Km _,Zw,by exact dmo hdH,fun m hm=>by simp only[Hp.set,Hp.del];rw[if_neg or,if_neg or,if_neg or],by simp only[Kj,List.filter_nil,Kh,go_sem,reduceIte,jA,jB,jC,jD,reduceCtorEq,jE,jF],Zw,by simp only[go_sem,reduceIte,jA,jB,jC,jD,reduceCtorEq,jE,jF]⟩ (by simp only[WkL,aD,jH,jI,jJ,jK,go_sem,reduceIte,jA,jB,jC,jD,reduceCtorEq,jE,jF]) ?_
 rintro⟨j,id⟩ hp3 nx3 ⟨hj,aOC,aD7,hk3,hb9,hid,hti⟩;generalize hQ2:aX _ _ _ _ _=Q2;dsimp only at hj hb9 hid hti;simp only[aD,go_sem,reduceIte,jA,jB,jC,jD,reduceCtorEq,jE,jF];have n9:nx1+18<nx3:=or;have f9:(nx1+18=id)=False:=fls;have aGm:=aD7 _ _ hti;rcases Kk j l.vars.length with hjl|hjg
 ·have hc2:decide ((j:Int)<(l.vars.length:Int))=true:=dct;have hgv:=aM V.str l.vars j hjl;have hw2:IntKind.i64.wrap ((j:Int)+1)=((j+1:Nat):Int):=wrp;have htk:hv++(l.vars.take (j+1)).filter (fun v=> !bB v hv)=(hv++(l.vars.take j).filter fun v=> !bB v hv)++(if bB l.vars[j] hv=true then [] else [l.vars[j]]):=by
   rw[Ka hjl,List.filter_append,List.append_assoc];congr 2;cases hq:bB l.vars[j] hv<;>simp[hq]
  have hwl:(hv++(l.vars.take j).filter fun v=> !bB v hv).length≤100000000:=by
   rw[List.length_append];have:=List.length_filter_le (fun v=> !bB v hv) (l.vars.take j);rw[Kb] at this;omega
  have hha:=AW (hv:=hv) hnd hjl;generalize (hv++(l.vars.take j).filter fun v=> !bB v hv)=W at*;generalize l.vars[j]=x at*;have D1:∀h,aI Tryz.prog 49 [.sl .leaf (.tok id) (W.map V.str), .str x] h (.bool (bB x hv)):=fun h=>hha▸jV (.tok id) W or x h;have hml:(W.map V.str).length=W.length:=jK ..;cases hb:bB x hv with
  |true=>
   rw[hb] at D1 htk;rw[if_pos rfl,Kh] at htk;refine aun (e8 hc2 hgv hjl (@jK ByteArray V) jG hw2 hb9 n9) ?_;rw[←hQ2];exact aE (j+1,id) Zw ⟨hjl,or,dmo aD7,hk3,by dsimp only;rw[htk];exact hb9,hid,hti⟩ (by simp only[WkL,aD,jH,jI,jJ,go_sem,reduceIte,jA,jB,jC,jD,reduceCtorEq,jE,jF])
  |false=>
   rw[hb] at D1 htk;rw[if_neg Zm] at htk;have hco:∀aAE aAM,pL hp3 (nx3+8) aAE aAM [none,none,none,none,none,none,none] id .tip:=fun _ _=>vM or hti (by simp[dC]);refine aue (e13 hc2 hgv hjl (@jK ByteArray V) jG hw2 hb9 n9 hml hwl f9 hti hco) ?_;rw[←hQ2];refine aE (j+1,nx3+15) Zw ⟨hjl,or,dmo aD7,fun m hm=>?_,?_,Zw,by simp only[(fls:(nx3+15=id)=False),(fls:(nx3=nx1+3)=False),go_sem,reduceIte,jA,jB,jC,jD,reduceCtorEq,jE,jF]⟩ (by simp only[WkL,aD,jH,jI,jJ,go_sem,reduceIte,jA,jB,jC,jD,reduceCtorEq,jE,jF])
   ·simp only[Hp.set,Hp.del];rw[if_neg or,if_neg or,if_neg or,if_neg or];exact hk3 m hm
   dsimp only;rw[htk,Kc,Kg,Ke];simp only[go_sem,reduceIte,jA,jB,jC,jD,reduceCtorEq,jE,jF]
 have hc2:decide ((j:Int)<(l.vars.length:Int))=false:=dcf;refine aue (e2 hc2 (@jK ByteArray V)) ?_;rw[←hQ2];refine au ?_;rw[Kd or,←hwt] at hb9;rw[←hSQ];refine lB (mg (n:=nx1+18) (k:= .agg 5) hb9) ?_;simp only[Kg,Ke];have hlo:(V.agg [.int .i64 l.k, .int .i64 k, .sl .leaf (o9 i) (hv.map V.str), .sl .leaf (.tok id) ((nmL hv l.ts).map V.str), .sl .leaf .nil []]).loose= .agg [.int .i64 l.k, .int .i64 k, .sl .leaf (o9 i) (hv.map V.str), .sl .leaf .free ((nmL hv l.ts).map V.str), .sl .leaf .nil []]:=by
  unfold o9;split<;>rfl
 rw[hlo];have hc0:=((hk3 nx or).trans (hk1 nx n1)).trans hb0;have hc8:=(hk3 (nx1+8) or).trans hb8;have aG0:Hp.same nx h' hp3:=fun m hm=>by rw[hk3 m or,hk1 m or];exact hsm m hm
 have aNr:Acc hp3 (nx+1) oS (vs9 ps):=haS.aA2 hdm fun m hm _=>by rw[hk3 m or,hk1 m or]
 have m1:nx<nx3:=or;have m4:nx1+8<nx3:=or;have k1:(nx1+8=nx1+18)=False:=fls;have k2:(nx=nx1+18)=False:=fls;clear hQ2 hSQ hk3 hk1;have hPS:(iT l k hv).v9 (o9 i)= .agg [.int .i64 l.k, .int .i64 k, .sl .leaf (o9 i) (hv.map V.str), .sl .leaf .free ((nmL hv l.ts).map V.str),lst .leaf ((if l.k=1∨l.k=2 then nS l.a hv else []).map kV)]:=by
  show V.agg [.int .i64 (iT l k hv).k,_,_,_,_]=_;rw[hkk];rfl
 have hvs:=Br ps (iT l k hv);rw[←hpa,hpi] at hvs;have ho9:o9 (i+1)= .free:=rfl;have aTF:(vs9 ps).length≤8:=by rw[pP];omega
 by_cases hk3:l.k=3
 ·have g3:(l.k != 3)=false:=bnf;rw[if_neg or,Ke,xJ] at hPS;refine aun (e11 hc0 hc8 m1 m4 n9 k1 k2 g3 aTF (@jK ByteArray V) hk0) ?_;generalize hH:Hp.set _ _ _=H5;have hk5:∀m,m<nx3→m≠nx1+18→H5 m=hp3 m:=fun m hm hn=>by rw[←hH];simp only[Hp.set];repeat rw[if_neg or]
  have hb5:H5 (nx1+18)=some (.arr (.agg 5) [(iT l k hv).v9 (o9 i)]):=by rw[←hH,hPS];simp only[n9,go_sem,reduceIte,jA,jB,jC,jD,reduceCtorEq,jE,jF]
  have hd5:aQ H5 (nx3+1):=by rw[←hH];exact dmo aD7
  clear hH;have hte:∀m,oS= .tok m→m≠nx1+18:=fun m e e2=>by
   rcases aNr with⟨_,e3⟩|⟨_,id,_,e3,e4⟩
   ·rw[e3] at e;cases e
   rw[e3] at e;injection e with e;rw[e,e2,hb9] at e4;cases e4
  rw[←hPS];refine fV (k:= .agg 5) (n0:=nx+1) rfl (aNr.aA2 aD7 fun m hm e=>hk5 m hm (hte m e)) Zw hd5 rfl (by simp only[jL,jM];omega) ?_;intro o6 h6 ha6 hd6 ho6 hs6 aCC;dsimp only at hd6 ho6 hs6 aCC;have hb6:=(aCC (nx1+18) or fun e=>hte _ e rfl).trans hb5;rw[hPS] at hb6;have n8:nx1+18<nx3+3:=or;have n7:nx1+18<nx3+2:=or;rw[hPS];refine aue (e4 hb6 n8 n7 hw) ?_;rw[←hQ];refine aE (i+1,o6) Zw ⟨hlt,or,by exact dmo hd6,fun m hm=>?_,?_,by dsimp only;rw[hvs];exact ha6⟩ (by simp only[WkL,aD,jH,jI,jJ,hvs,hPS,hba,ho9,go_sem,reduceIte,jA,jB,jC,jD,reduceCtorEq,jE,jF])
  ·rw[hs6 m or,hk5 m or or,aG0 m hm]
  rw[hs6 nx or,hk5 nx or or];exact hc0
 have g3:(l.k != 3)=true:=bnt;have aGl:l.k=1∨l.k=2:=by have:=yP hrl;omega
 have hlp:bC (.agg 2) 1 (.agg T)= .agg [.str l.a.r,trs l.a.o l.a.l]:=congrArg V.agg hat
 obtain⟨o5,ho5⟩:=bR .leaf ((nS l.a hv).map kV);have C2:=fun h=>db l.a (by
  unfold bJ at hrl;rw[if_pos aGl] at hrl;unfold fO at hrl;simp only[Bool.and_eq_true,decide_eq_true_eq] at hrl;have:=hrl.1.1.1.2;omega) (o9 i) hv or h
 simp only[Am.v,trs] at C2;rw[ho5] at C2;rw[if_pos aGl,ho5] at hPS;refine aun (e13 hc0 hc8 m1 m4 n9 k1 k2 g3 aTF (@jK ByteArray V) hlp trs.eq_1 hk0) ?_;generalize hH:Hp.set _ _ _=H5;have hk5:∀m,m<nx3→m≠nx1+18→H5 m=hp3 m:=fun m hm hn=>by rw[←hH];simp only[Hp.set];repeat rw[if_neg or]
 have hb5:H5 (nx1+18)=some (.arr (.agg 5) [(iT l k hv).v9 (o9 i)]):=by rw[←hH,hPS];simp only[n9,go_sem,reduceIte,jA,jB,jC,jD,reduceCtorEq,jE,jF]
 have hd5:aQ H5 (nx3+2):=by rw[←hH];exact dmo aD7
 clear hH;have hte:∀m,oS= .tok m→m≠nx1+18:=fun m e e2=>by
  rcases aNr with⟨_,e3⟩|⟨_,id,_,e3,e4⟩
  ·rw[e3] at e;cases e
  rw[e3] at e;injection e with e;rw[e,e2,hb9] at e4;cases e4
 rw[←hPS];refine fV (k:= .agg 5) (n0:=nx+1) rfl (aNr.aA2 aD7 fun m hm e=>hk5 m hm (hte m e)) Zw hd5 rfl (by simp only[jL,jM];omega) ?_;intro o6 h6 ha6 hd6 ho6 hs6 aCC;dsimp only at hd6 ho6 hs6 aCC;have hb6:=(aCC (nx1+18) or fun e=>hte _ e rfl).trans hb5;rw[hPS] at hb6;have n8:nx1+18<nx3+3:=or;have n7:nx1+18<nx3+2:=or;rw[hPS];refine aue (e4 hb6 n8 n7 hw) ?_;rw[←hQ];refine aE (i+1,o6) Zw ⟨hlt,or,by exact dmo hd6,fun m hm=>?_,?_,by dsimp only;rw[hvs];exact ha6⟩ (by simp only[WkL,aD,jH,jI,jJ,hvs,hPS,hba,ho9,go_sem,reduceIte,jA,jB,jC,jD,reduceCtorEq,jE,jF])
 ·rw[hs6 m or,hk5 m or or,aG0 m hm]
 rw[hs6 nx or,hk5 nx or or];exact hc0
end Go.Proofs.YtgbiopfghdilnaaGreatDoor
namespace Go.Proofs.YtgbiopfghdilnaaGreatDoor
open Go.RowKit Go.Sort
theorem Ex.aE1(e:Ex):e.cp.kids=e.kids.map Ex.cp:=by
 obtain⟨op,t,o,ks⟩:=e;exact Ex.aA5 ks
theorem Ex.aBS:∀(n:Nat) (e:Ex),SizeOf.sizeOf e≤n→e.cp.ts=e.ts
 |0, .mk op t o ks,h=>by simp at h
 |n+1, .mk op t o ks,h=>by
  have hk:∀e∈ks,SizeOf.sizeOf e≤n:=fun e he=>by
   have:=List.sizeOf_lt_of_mem he;simp only[Ex.mk.sizeOf_spec] at h;omega
  rw[Ex.aBn,Ex.aBn,Ex.aE1];show(if ks.map Ex.cp=[] then [t] else (ks.map Ex.cp).flatMap Ex.ts)=if ks=[] then [t] else ks.flatMap Ex.ts
  rw[Kp];by_cases h0:ks=[]
  ·subst h0;rfl
  rw[if_neg (by simpa using h0),if_neg h0,Kq,Kq];congr 1;exact List.map_congr_left fun e he=>Ex.aBS n e (hk e he)
theorem Li.aBS(l:Li):l.cp.ts=l.ts:=by
 show l.a.l++(l.x.cp.ts++l.y.cp.ts)=_;rw[Ex.aBS _ l.x (Ki _),Ex.aBS _ l.y (Ki _)];rfl
theorem Li.aAz(l:Li):l.cp.vars=l.vars:=by unfold Li.vars;rw[Li.aBS]
theorem iv(e:Ex):bQ e.cp=bQ e:=by
 obtain⟨op,t,o,ks⟩:=e;have:(Ex.cps ks=[])=(ks=[]):=by rw[Ex.aA5];simp
 show(if op≠0∨Ex.cps ks≠ [] then _ else t.x)=if op≠0∨ks≠ [] then _ else t.x
 simp only[ne_eq,this]
theorem mw(s:List ByteArray)(l:Li):cE s l.cp=cE s l:=by
 have h1:bQ l.cp.x=bQ l.x:=iv l.x;have h2:bQ l.cp.y=bQ l.y:=iv l.y;have h3:l.cp.x.ts=l.x.ts:=Ex.aBS _ l.x (Ki _);have h4:l.cp.y.ts=l.y.ts:=Ex.aBS _ l.y (Ki _);unfold cE;rw[h1,h2,h3,h4];rfl
theorem zi(s:List ByteArray)(l:Li):eQ s l.cp=eQ s l:=by
 unfold eQ;rw[mw,Li.aAz];rfl
theorem Ru.aAz(r:Ru):r.cp.vars=r.vars:=by
 show(r.b.map Li.cp).foldl (fun o l=>nmL o l.ts) (nmL [] r.h.l)=_;rw[List.foldl_map];simp only[Li.aBS];rfl
theorem BN(b:List Li)(s:List ByteArray):aAd (b.map Li.cp) s=aAd b s:=by
 unfold aAd;rw[List.filter_map,Ks];congr 2;funext l;simp only[Function.comp,Li.aAz]
theorem BD(b:List Li):iR (b.map Li.cp)=iR b:=by
 unfold iR;rw[Kp];congr 1;funext l;rw[Li.aAz];rfl
theorem iq(b:List Li):∀(n:Nat) (s:List ByteArray),dW (b.map Li.cp) n s=dW b n s
 |0,s=>rfl
 |n+1,s=>by
  unfold dW;rw[List.find?_map,show cE s∘Li.cp=cE s from funext fun l=>mw s l];cases b.find? (cE s) with
  |none=>rfl
  |some l=>
   show dW (b.map Li.cp) n (s++l.cp.vars)=_;rw[Li.aAz,iq b n]
theorem zq(r:Ru):dJ r.cp=dJ r:=by
 unfold dJ;show dW (r.b.map Li.cp) (aAd (r.b.map Li.cp) (iR (r.b.map Li.cp))) (iR (r.b.map Li.cp))=_;rw[BD,BN,iq]
theorem ew(r:Ru)(s:List ByteArray)(b:Bool):bY r.cp s b=bY r s b:=by unfold bY;rw[Ru.aAz]
theorem jq(r:Ru)(k:Nat):r.cp.b.getD k default=(r.b.getD k default).cp:=by
 show(r.b.map Li.cp).getD k default=_;simp only[Kf,List.getElem?_map];cases r.b[k]?<;>rfl
theorem Ax(r:Ru)(s:List ByteArray)(left:List Nat):gX r.cp s left=gX r s left:=by
 unfold gX;simp only[jq,zi];rfl
theorem ei(r:Ru):∀(n:Nat) (s:List ByteArray) (left:List Nat),fM r.cp n s left=fM r n s left
 |0,s,left=>rfl
 |n+1,s,left=>by
  unfold fM;simp only[Ax,jq,Li.aAz,ew,ei r n]
theorem xq(r:Ru):cK r.cp=cK r:=by
 unfold cK mE;rw[ei];show((fM r (r.b.map Li.cp).length [] (List.range (r.b.map Li.cp).length)).map _)=_;rw[Ks]
theorem nn(r:Ru):∀(ks:List Nat) (hv:List ByteArray),eV r.cp ks hv=eV r ks hv
 | [],hv=>rfl
 |k::ks,hv=>by
  unfold eV;rw[jq,Li.aBS,nn r ks];congr 1;unfold iT;rw[Li.aBS];rfl
theorem Ar(r:Ru):nT r.cp=nT r:=by unfold nT;rw[xq,nn]
end Go.Proofs.YtgbiopfghdilnaaGreatDoor
