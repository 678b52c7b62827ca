/-
Texts of this proof,one behind the other. No conditions.
-/
import Derived.Test.YtgbiopfghdilnaaGreatDoorKd
import Derived.Test.YtgbiopfghdilnaaGreatDoorKla
import Derived.Test.YtgbiopfghdilnaaGreatDoorKj
open Bool renaming eq_iff_iff→Ka
open List renaming take_succ_eq_append_getElem→Kb,sizeOf_lt_of_mem→Kc,mem_cons_of_mem→Ke,mem_singleton→Kf,mem_cons_self→Kg,all_eq_false→Kh,getElem_mem→Ki,take_length→Kj,all_eq_true→Kk,mem_append→Km
open Nat renaming le_refl→Kd,lt_or_ge→Ko,zero_le→Kp
open Nat renaming reduceAdd→jA,reduceSub→jB,reduceLT→jC,reduceLeDiff→jD,reduceEqDiff→jE
open Int renaming reduceToNat→jF,toNat_natCast→jG,natCast_add→jH,natCast_one→jI,natCast_zero→jJ
open List renaming length_map→jK,length_cons→jL,length_nil→jM,replicate_succ→jN,replicate_zero→jO,cons_append→jP,nil_append→jQ
set_option linter.unusedSimpArgs false
set_option linter.unusedVariables false
set_option linter.unusedSectionVars false
set_option maxHeartbeats 8000000
namespace Go.Proofs.YtgbiopfghdilnaaGreatDoor
open Go.RowKit Go.Sort
attribute [local irreducible] IntKind.wrap
set_option maxHeartbeats 4000000
theorem Cq{k:Int}(hk:k≠5){s:ByteArray}{t:Tk}(h:eT dO s (bL s 0)=([t],none))(h1:t.k=k)(h2:t.t=s):t=⟨k,s,0⟩:=by
 have hs:0<s.size:=by
  rcases Nat.eq_zero_or_pos s.size with e|e
  ·rw[lA or,iJ or] at h;cases h
  exact e
 obtain⟨ha,_⟩:=zP h h1 hk h2 hs;cases t;simp only at h1 h2 ha;rw[h1,h2,ha]
noncomputable def g8(k:Int)(s:ByteArray):Bool:=decide (s.size≤4000∧eT dO s (bL s 0)=([⟨k,s,0⟩],none))
theorem vW(s:ByteArray)(k:Int)(hk5:k≠5)(h:Hp):aI Tryz.prog 195 [.str s, .int .i64 k] h (.bool (g8 k s)):=by
 refine aH (fun L=>trivial) fun h' nx hh=>aC L.aSc fun hd=>?_;simp only[jL,jM,jA,jB,jN,jO,jP,jQ,V.undef];have C0:=fun h=>xg s h;unfold Bi at C0;unfold g8;by_cases h1:4000<s.size
 ·rw[if_pos h1] at C0;have C1:=C0;have g1:((3:Int)==0)=false:=rfl;refine aue g1 ?_;refine aB h' (leo hd) ⟨?_,rfl⟩;first|rfl|(rw[decide_eq_false or];rfl)
 rw[if_neg h1] at C0;obtain⟨T,hT⟩:∃T,eT dO s (bL s 0)=T:=⟨_,rfl⟩;have hsg:=@Cq k hk5 s;rw[hT] at C0 hsg⊢;obtain⟨l,b⟩:=T;have h2:s.size≤4000:=or;cases b with
 |some a=>
  have C1:∀h,aI Tryz.prog 206 [.str s] h (.tup [.sl (.agg 3) .nil [], .int .i64 a, .int .i64 2]):=C0;have g1:((2:Int)==0)=false:=rfl;refine aue g1 ?_;refine aB h' (leo hd) ⟨?_,rfl⟩;first|rfl|(rw[decide_eq_false Zm];rfl)
 |none=>
  have g1:((0:Int)==0)=true:=rfl;cases l with
  |nil=>
   have C1:∀h,aI Tryz.prog 206 [.str s] h (.tup [.sl (.agg 3) .nil [], .int .i64 0, .int .i64 0]):=C0;have hk:(((0:Nat):Int)==1)=false:=rfl;refine aue (e2 g1 hk) ?_;refine aB h' (leo hd) ⟨?_,rfl⟩;first|rfl|(rw[decide_eq_false Zm];rfl)
  |cons t r=>
  cases r with
  |nil=>
   have C1:∀h,aI Tryz.prog 206 [.str s] h (.tup [.sl (.agg 3) .free [.agg [.int .i64 t.k, .str t.t, .int .i64 t.a]], .int .i64 0, .int .i64 0]):=C0;have hk:(((1:Nat):Int)==1)=true:=rfl;have hk':(((0+1:Nat):Int)==1)=true:=rfl;have hbe:=cV t.t s
   (repeat' (first|(with_reducible first|refine stp ?_|refine bW ZM ?_|refine nL (fun _=>?_) (fun _=>?_))|((first|(with_reducible refine kQ ?_;first|refine iI rfl ?_ ?_|refine aK (C1 _) rfl (aL _) ?_|refine Zx ?_)|(with_reducible refine kU ?_;first|refine iM rfl ?_ ?_|refine ZX ?_)|refine Zy ?_)<;>try simp only[g1,hk,hk',hbe,go_sem,reduceIte,jA,jB,jC,jD,reduceCtorEq,jE,jF])|refine ZY ?_|omega))
   all_goals refine aB h' (leo hd) ⟨vb ?_,rfl⟩
   ·rename_i q;have q:t.k=k:=by simpa using q
    by_cases q2:t.t=s
    ·have:=hsg rfl q q2;simp[q2,h2,this]
    have:t≠⟨k,s,0⟩:=fun e=>q2 (by rw[e]);simp[q2,this]
   rename_i q;have q:t.k≠k:=by simpa using q
   have:t≠⟨k,s,0⟩:=fun e=>q (by rw[e]);simp[this]
  |cons u r=>
   have C1:∀h,aI Tryz.prog 206 [.str s] h (.tup [.sl (.agg 3) .free (t.v::u.v::r.map Tk.v), .int .i64 0, .int .i64 0]):=C0;obtain⟨q,hq⟩:∃q,r.map Tk.v=q:=⟨_,rfl⟩;rw[hq] at C1;have hk:(((q.length+1+1:Nat):Int)==1)=false:=bqf;have hk':((q.length:Int)+1+1==1)=false:=bqf;refine aue (e3 g1 hk hk') ?_;refine aB h' (leo hd) ⟨?_,rfl⟩;first|rfl|(rw[decide_eq_false Zm];rfl)
theorem y6(s:ByteArray):g8 3 s=iz s:=by
 rw[Ka];unfold g8;rw[decide_eq_true_eq,ve vh];exact⟨fun h=>h.2,fun h=>⟨by have:=(of_decide_eq_true h).2.1;omega,h⟩⟩
theorem y7(s:ByteArray):g8 2 s=r5 s:=by
 rw[Ka];unfold g8;rw[decide_eq_true_eq,vf vh];exact⟨fun h=>h.2,fun h=>⟨by have:=(of_decide_eq_true (of_decide_eq_true h).1).2.1;omega,h⟩⟩
theorem yL(s:ByteArray)(h:Hp):aI Tryz.prog 194 [.str s] h (.bool (iz s)):=by
 refine aH (fun L=>trivial) fun h' nx hh=>aC L.aSd fun hd=>?_;simp only[jL,jM,jA,jB,jN,jO,jP,jQ,V.undef];have C1:=fun h=>vW s 3 ZM h;rw[y6] at C1;refine au ?_;exact aB h' (leo hd) ⟨rfl,rfl⟩
theorem nb(s:ByteArray)(h:Hp):aI Tryz.prog 178 [.str s] h (.bool (r5 s)):=by
 refine aH (fun L=>trivial) fun h' nx hh=>aC L.aS3 fun hd=>?_;simp only[jL,jM,jA,jB,jN,jO,jP,jQ,V.undef];have C1:=fun h=>vW s 2 ZM h;rw[y7] at C1;refine au ?_;exact aB h' (leo hd) ⟨rfl,rfl⟩
theorem rE(t:Tr)(hl:t.w.s.size≤9223372036854775807)(h:Hp):aI Tryz.prog 177 [t.v] h (.bool (dT t)):=by
 refine aH (fun L=>trivial) fun h' nx hh=>aC L.aS4 fun hd=>?_;simp only[jL,jM,jA,jB,jN,jO,jP,jQ,V.undef];have C1:∀h,aI Tryz.prog 110 [.agg [.int .i64 t.w.k, .int .i64 t.w.n, .str t.w.s]] h (.bool (rG t.w)):=fun h=>iy t.w hl h;have C2:=fun h=>yL t.x h;have hz:=dl t.w;unfold dT;by_cases h1:t.x.size=0
 ·have g1:((t.x.size:Int)==0)=true:=bqt;refine aue (e2 Tr.v.eq_1 g1) ?_;refine aB h' (leo hd) ⟨?_,rfl⟩;rw[if_pos h1];rfl
 have g1:((t.x.size:Int)==0)=false:=bqf;rw[if_neg h1];cases h2:iz t.x with
 |true=>
  rw[h2] at C2;refine aue (e3 Tr.v.eq_1 g1 hz) ?_;refine aB h' (leo hd) ⟨?_,rfl⟩;rfl
 |false=>
  rw[h2] at C2;refine aue (e3 Tr.v.eq_1 g1 hz) ?_;refine aB h' (leo hd) ⟨?_,rfl⟩;rfl
theorem yK(e:Ex)(h:Hp):aI Tryz.prog 179 [e.v] h (.bool (iS e)):=by
 refine aH (fun L=>trivial) fun h' nx hh=>aC L.aS2 fun hd=>?_;obtain⟨op,t,o,ks⟩:=e;rw[Ex.aAW];simp only[jL,jM,jA,jB,jN,jO,jP,jQ,V.undef];have hz:=kZ t;have k0:=kl0 ks;unfold iS
 (repeat' (first|(with_reducible first|refine stp ?_|refine bW ZM ?_|refine nL (fun _=>?_) (fun _=>?_))|((first|(with_reducible refine kQ ?_;first|refine iI rfl ?_ ?_|refine Zx ?_)|(with_reducible refine kU ?_;first|refine iM rfl ?_ ?_|refine ZX ?_)|refine Zy ?_)<;>try simp only[Ex.cs.eq_1,Ex.op.eq_1,Ex.t.eq_1,Ex.o.eq_1,Ex.kids.eq_1,hz,k0,jK,go_sem,reduceIte,jA,jB,jC,jD,reduceCtorEq,jE,jF])|refine ZY ?_|omega))
 all_goals refine aB h' (leo hd) ⟨vb ?_,rfl⟩
 all_goals simp_all
set_option maxHeartbeats 4000000
def Tr.sm(t:Tr):Prop:=t.x.size≤9223372036854775807∧t.w.s.size≤9223372036854775807
mutual
def Ex.sm:Ex→Prop
 | .mk _ t _ ks=>t.sm∧Ex.sms ks
def Ex.sms:List Ex→Prop
 | []=>True
 |e::r=>e.sm∧Ex.sms r
end
def Am.sm(a:Am):Prop:=a.r.size≤9223372036854775807∧∀t∈a.l,t.sm
def Li.sm(l:Li):Prop:=l.a.sm∧l.x.sm∧l.y.sm
def Ru.sm(r:Ru):Prop:=r.h.sm∧∀l∈r.b,l.sm
theorem oL(n:Nat)(op:Int)(t:Tr)(o:Own)(ks:List Ex)(h:ks.length≠2):dU (n+1) (.mk op t o ks)=(if op=0 then decide (ks=[]∧dT t=true) else false):=by
 unfold dU;match ks,h with
 | [],_=>rfl
 | [a],_=>rfl
 | [a,b],h=>exact absurd rfl h
 |a::b::c::r,_=>rfl
theorem yQ(n:Nat)(op:Int)(t:Tr)(o:Own)(a b:Ex):dU (n+1) (.mk op t o [a,b])=(if op=0 then false else decide (1≤op∧op≤3∧mC t=true∧dU n a=true∧dU n b=true)):=by
 conv=>lhs;unfold dU
 simp
theorem Dt(l:List Ex):((l.length:Int)==2)=decide (l.length=2):=by
 rw[Ka];simp;omega
theorem r4:∀(n:Nat) (hn:n≤100) (e:Ex) (he:e.sm) (h:Hp),aI Tryz.prog 196 [e.v, .int .i64 n] h (.bool (dU n e)):=by
 intro n;induction n with
 |zero=>
  intro hn e he h;refine aH (fun L=>trivial) fun h' nx hh=>aC L.aMY fun hd=>?_;obtain⟨op,t,o,ks⟩:=e;rw[Ex.aAW];simp only[jL,jM,jA,jB,jN,jO,jP,jQ,V.undef];have hz:=kZ t;have k0:=kl0 ks;have k2:=Dt ks;have hn0:decide ((0:Int)<((0:Nat):Int))=false:=rfl;have hn1:decide ((0:Int)<0)=false:=rfl;have C1:∀h,aI Tryz.prog 177 [.agg [.str t.x, .int .i64 t.w.k, .int .i64 t.w.n, .str t.w.s]] h (.bool (dT t)):=fun h=>rE t he.1.2 h;unfold dU
  (repeat' (first|(with_reducible first|refine stp ?_|refine bW ZM ?_|refine nL (fun _=>?_) (fun _=>?_))|((first|(with_reducible refine kQ ?_;first|refine iI rfl ?_ ?_|refine aK (C1 _) rfl (aL _) ?_|refine Zx ?_)|(with_reducible refine kU ?_;first|refine iM rfl ?_ ?_|refine ZX ?_)|refine Zy ?_)<;>try simp only[Ex.cs.eq_1,Ex.op.eq_1,Ex.t.eq_1,Ex.o.eq_1,Ex.kids.eq_1,hz,k0,k2,hn0,hn1,jK,go_sem,reduceIte,jA,jB,jC,jD,reduceCtorEq,jE,jF])|refine ZY ?_|omega))
  all_goals refine aB h' (leo hd) ⟨vb ?_,rfl⟩
  all_goals simp_all
 |succ n ih=>
  intro hn e he h;refine aH (fun L=>trivial) fun h' nx hh=>aC L.aMY fun hd=>?_;obtain⟨op,t,o,ks⟩:=e;rw[Ex.aAW];simp only[jL,jM,jA,jB,jN,jO,jP,jQ,V.undef];have hz:=kZ t;have k0:=kl0 ks;have hn0:decide ((0:Int)<((n+1:Nat):Int))=true:=dct;have hn1:decide ((0:Int)<(n:Int)+1)=true:=dct;have C1:∀h,aI Tryz.prog 177 [.agg [.str t.x, .int .i64 t.w.k, .int .i64 t.w.n, .str t.w.s]] h (.bool (dT t)):=fun h=>rE t he.1.2 h;have hw:IntKind.i64.wrap (((n+1:Nat):Int)-1)=(n:Int):=wrp;have hw':IntKind.i64.wrap ((n:Int)+1-1)=(n:Int):=wrp;by_cases hk:ks.length=2
  ·obtain⟨a,b,rfl⟩:∃a b,ks=[a,b]:=by
    match ks,hk with
    | [a,b],_=>exact⟨a,b,rfl⟩
   rw[yQ];have C2:=fun h=>ih or a he.2.1 h;have C3:=fun h=>ih or b he.2.2.1 h;have ha:=Ex.aAF a;have hb:=Ex.aAF b;have hm: [a,b].map Ex.v=[a.v,b.v]:=rfl;have hl:(((0+1+1:Nat):Int)==0)=false:=rfl;have hl2:(((0+1+1:Nat):Int)==2)=true:=rfl;clear k0
   (repeat' (first|(with_reducible first|refine stp ?_|refine bW ZM ?_|refine nL (fun _=>?_) (fun _=>?_))|((first|(with_reducible refine kQ ?_;first|refine iI rfl ?_ ?_|refine aK (C1 _) rfl (aL _) ?_|refine aK (C2 _) rfl (aL _) ?_|refine aK (C3 _) rfl (aL _) ?_|refine Zx ?_)|(with_reducible refine kU ?_;first|refine iM rfl ?_ ?_|refine ZX ?_)|refine Zy ?_)<;>try simp only[Ex.cs.eq_1,Ex.op.eq_1,Ex.t.eq_1,Ex.o.eq_1,Ex.kids.eq_1,hz,hm,ha,hb,hl,hl2,hn0,hn1,hw,hw',go_sem,reduceIte,jA,jB,jC,jD,reduceCtorEq,jE,jF])|refine ZY ?_|omega))
   all_goals refine aB h' (leo hd) ⟨vb ?_,rfl⟩
   all_goals try simp_all
   all_goals try (intros;omega)
  rw[oL _ _ _ _ _ hk];have k2':((ks.length:Int)==2)=false:=bqf
  (repeat' (first|(with_reducible first|refine stp ?_|refine bW ZM ?_|refine nL (fun _=>?_) (fun _=>?_))|((first|(with_reducible refine kQ ?_;first|refine iI rfl ?_ ?_|refine aK (C1 _) rfl (aL _) ?_|refine Zx ?_)|(with_reducible refine kU ?_;first|refine iM rfl ?_ ?_|refine ZX ?_)|refine Zy ?_)<;>try simp only[Ex.cs.eq_1,Ex.op.eq_1,Ex.t.eq_1,Ex.o.eq_1,Ex.kids.eq_1,hz,k0,k2',hn0,hn1,jK,go_sem,reduceIte,jA,jB,jC,jD,reduceCtorEq,jE,jF])|refine ZY ?_|omega))
  all_goals refine aB h' (leo hd) ⟨vb ?_,rfl⟩
  all_goals simp_all
theorem yN(e:Ex)(he:e.sm)(h:Hp):aI Tryz.prog 180 [e.v] h (.bool (iB e)):=by
 refine aH (fun L=>trivial) fun h' nx hh=>aC L.aSy fun hd=>?_;have hv:=Ex.aAW e;have C1:∀h,aI Tryz.prog 196 [.agg e.cs, .int .i64 20] h (.bool (dU 20 e)):=fun h=>hv▸r4 20 or e he h;rw[hv];simp only[jL,jM,jA,jB,jN,jO,jP,jQ,V.undef];refine aue Ex.cs.eq_1 ?_;exact aB h' (leo hd) ⟨rfl,rfl⟩
theorem vZ(a:Am)(ha:a.sm)(h:Hp):aI Tryz.prog 140 [a.v] h (.bool (fO a)):=by
 refine aH (fun L=>trivial) fun h' nx hh=>aC L.aVH fun hd=>?_;obtain⟨r,o,l⟩:=a;simp only[jL,jM,jA,jB,jN,jO,jP,jQ,V.undef];have C1:=fun h=>nb r h;refine aue Am.v.eq_1 ?_;refine aO (fun i:Nat=>aD 25 0 [(1, .ptr nx (.agg 2) 0 0),(2, .bool false),(3, .int .i64 i)]) (fun i hp nx1=>i≤l.length∧i≤6∧hp=h'.set nx (.arr (.agg 2) [.agg [.str r,trs o l]])∧nx<nx1∧∀t∈l.take i,dT t=true) (fun i=>l.length-i) 0 ⟨Kp _,or,rfl,Zw,Zm⟩ (by simp only[WkL,aD,jH,jI,jJ,go_sem,reduceIte,jA,jB,jC,jD,reduceCtorEq,jE,jF]) ?_;rintro i hp nx1 ⟨hi,hi6,rfl,aCQ,hno⟩;generalize hQ:aX _ _ _ _ _=Q0;simp only[aD,go_sem,reduceIte,jA,jB,jC,jD,reduceCtorEq,jE,jF];rcases Ko i l.length with hlt|hge
 ·have hc:decide ((i:Int)<(l.length:Int))=true:=dct;have hg:=aM Tr.v l i hlt;have hw:IntKind.i64.wrap ((i:Int)+1)=((i+1:Nat):Int):=wrp;have hin:l[i]∈l:=Ki _;by_cases h5:5<i
  ·have g1:decide ((5:Int)<(i:Int))=true:=dct;refine aue (e4 hc g1 hlt (@jK Tr V)) ?_;rw[←hQ];refine au ?_;refine aB h' (leo hd) ⟨vb ?_,rfl⟩;have:¬l.length≤6:=or;simp[fO,this]
  have g1:decide ((5:Int)<(i:Int))=false:=dcf;have C2:=fun h=>rE l[i] (ha.2 _ hin).2 h;cases k:dT l[i] with
  |true=>
   rw[k] at C2;refine aue (e8 hc g1 hlt hg hw (@jK Tr V) jG Tr.aAF) ?_;rw[←hQ];refine aE (i+1) or ⟨or,or,rfl,or,fun t ht=>?_⟩ (by simp only[WkL,aD,jH,jI,jJ,go_sem,reduceIte,jA,jB,jC,jD,reduceCtorEq,jE,jF]);rw[Kb hlt,Km,Kf] at ht;rcases ht with ht|rfl
   ·exact hno t ht
   exact k
  |false=>
   rw[k] at C2;refine aue (e8 hc g1 hlt hg hw (@jK Tr V) jG Tr.aAF) ?_;rw[←hQ];refine au ?_;refine aB h' (leo hd) ⟨vb ?_,rfl⟩;have:l.all dT=false:=Kh.2 ⟨_,hin,by simp[k]⟩;simp[fO,this]
 have hc:decide ((i:Int)<(l.length:Int))=false:=dcf;refine aue (e2 hc (@jK Tr V)) ?_;rw[←hQ];refine au ?_;have hil:i=l.length:=or;rw[hil,Kj] at hno;refine aB h' (leo hd) ⟨vb ?_,rfl⟩;have h1:l.all dT=true:=Kk.2 hno;have h2:l.length≤6:=or;simp[fO,h1,h2]
theorem ry(l:Li)(hl:l.sm)(h:Hp):aI Tryz.prog 141 [l.v] h (.bool (bJ l)):=by
 refine aH (fun L=>trivial) fun h' nx hh=>aC L.aVG fun hd=>?_;rw[Li.aAW];simp only[jL,jM,jA,jB,jN,jO,jP,jQ,V.undef];have C1:∀h:Hp,aI Tryz.prog 140 [.agg [.str l.a.r, .sl (.agg 4) l.a.o (l.a.l.map Tr.v)]] h (.bool (fO l.a)):=fun h=>vZ l.a hl.1 h;have N1:∀h:Hp,aI Tryz.prog 179 [.agg [.int .i64 l.x.op, .str l.x.t.x, .int .i64 l.x.t.w.k, .int .i64 l.x.t.w.n, .str l.x.t.w.s, .sl (.agg 6) l.x.o (l.x.kids.map Ex.v)]] h (.bool (iS l.x)):=fun h=>Ex.aAW l.x▸yK l.x h;have N2:∀h:Hp,aI Tryz.prog 179 [.agg [.int .i64 l.y.op, .str l.y.t.x, .int .i64 l.y.t.w.k, .int .i64 l.y.t.w.n, .str l.y.t.w.s, .sl (.agg 6) l.y.o (l.y.kids.map Ex.v)]] h (.bool (iS l.y)):=fun h=>Ex.aAW l.y▸yK l.y h;have X1:∀h:Hp,aI Tryz.prog 180 [.agg [.int .i64 l.x.op, .str l.x.t.x, .int .i64 l.x.t.w.k, .int .i64 l.x.t.w.n, .str l.x.t.w.s, .sl (.agg 6) l.x.o (l.x.kids.map Ex.v)]] h (.bool (iB l.x)):=fun h=>Ex.aAW l.x▸yN l.x hl.2.1 h;have X2:∀h:Hp,aI Tryz.prog 180 [.agg [.int .i64 l.y.op, .str l.y.t.x, .int .i64 l.y.t.w.k, .int .i64 l.y.t.w.n, .str l.y.t.w.s, .sl (.agg 6) l.y.o (l.y.kids.map Ex.v)]] h (.bool (iB l.y)):=fun h=>Ex.aAW l.y▸yN l.y hl.2.2 h;have s0:((l.a.r.size:Int)==0)=decide (l.a.r.size=0):=by rw[Ka];simp
 have k0:=kn0 l.a.l;unfold bJ
 (repeat' (first|(with_reducible first|refine stp ?_|refine bW ZM ?_|refine nL (fun _=>?_) (fun _=>?_))|((first|(with_reducible refine kQ ?_;first|refine iI rfl ?_ ?_|refine aK (C1 _) rfl (aL _) ?_|refine aK (N1 _) rfl (aL _) ?_|refine aK (N2 _) rfl (aL _) ?_|refine aK (X1 _) rfl (aL _) ?_|refine aK (X2 _) rfl (aL _) ?_|refine Zx ?_)|(with_reducible refine kU ?_;first|refine iM rfl ?_ ?_|refine ZX ?_)|refine Zy ?_)<;>try simp only[s0,k0,jK,go_sem,reduceIte,jA,jB,jC,jD,reduceCtorEq,jE,jF])|refine ZY ?_|omega))
 all_goals refine aB h' (leo hd) ⟨vb ?_,rfl⟩
 all_goals simp_all
 all_goals try omega
set_option maxHeartbeats 4000000
theorem je(r:Ru)(hr:r.sm)(hy:(fO r.h&&bt r&&decide (r.b.length≤8))=true)(h':Hp)(nx:Nat)(hd:aQ h' nx)(sl:List V)(hw:WkL sl (aD 77 0 [(1, .ptr nx (.agg 6) 0 0),(2, .bool false),(3, .int .i64 0)])):
 lwp Tryz.prog (.loop L.aEh) (eH 0 (lJ (lwp Tryz.prog ((aP.ops L.aDK).seq aP.ret)) (sI [.slot 2] fun v' h'' x=>v'= .bool (bM r)∧h''=h'))) ⟨sl,h'.set nx (.arr (.agg 6) [.agg [.str r.h.r, .sl (.agg 4) r.h.o (r.h.l.map Tr.v), .int .i64 r.g, .int .i64 r.c, .sl (.agg 17) r.o (r.b.map Li.v), .int .i64 r.at_]]),nx+1⟩:=by
 have h8:r.b.length≤8:=by simp only[Bool.and_eq_true,decide_eq_true_eq] at hy;exact hy.2
 have hrr:bM r=r.b.all bJ:=by unfold bM;rw[hy];rfl
 rw[hrr];refine aO (fun i:Nat=>aD 77 0 [(1, .ptr nx (.agg 6) 0 0),(2, .bool false),(3, .int .i64 i)]) (fun i hp nx1=>i≤r.b.length∧hp=h'.set nx (.arr (.agg 6) [.agg [.str r.h.r, .sl (.agg 4) r.h.o (r.h.l.map Tr.v), .int .i64 r.g, .int .i64 r.c, .sl (.agg 17) r.o (r.b.map Li.v), .int .i64 r.at_]])∧nx<nx1∧∀t∈r.b.take i,bJ t=true) (fun i=>r.b.length-i) 0 ⟨Kp _,rfl,Zw,Zm⟩ hw ?_;rintro i hp nx1 ⟨hi,rfl,aCQ,hno⟩;generalize hQ:aX _ _ _ _ _=Q0;simp only[aD,go_sem,reduceIte,jA,jB,jC,jD,reduceCtorEq,jE,jF];rcases Ko i r.b.length with hlt|hge
 ·have hc:decide ((i:Int)<(r.b.length:Int))=true:=dct;have hg:=aM Li.v r.b i hlt;have hw:IntKind.i64.wrap ((i:Int)+1)=((i+1:Nat):Int):=wrp;have hin:r.b[i]∈r.b:=Ki _;have C1:=fun h=>ry r.b[i] (hr.2 _ hin) h;have hfl:=Li.aAF r.b[i];cases k:bJ r.b[i] with
  |true=>
   rw[k] at C1;refine aue (e7 hc hlt hg hw (@jK Li V) jG hfl) ?_;rw[←hQ];refine aE (i+1) or ⟨or,rfl,or,fun t ht=>?_⟩ (by simp only[WkL,aD,jH,jI,jJ,go_sem,reduceIte,jA,jB,jC,jD,reduceCtorEq,jE,jF]);rw[Kb hlt,Km,Kf] at ht;rcases ht with ht|rfl
   ·exact hno t ht
   exact k
  |false=>
   rw[k] at C1;refine aue (e7 hc hlt hg hw (@jK Li V) jG hfl) ?_;rw[←hQ];refine au ?_;refine aB h' (leo hd) ⟨?_,rfl⟩;have:r.b.all bJ=false:=Kh.2 ⟨_,hin,by simp[k]⟩;rw[this];rfl
 have hc:decide ((i:Int)<(r.b.length:Int))=false:=dcf;refine aue (e2 hc (@jK Li V)) ?_;rw[←hQ];refine au ?_;have hil:i=r.b.length:=or;rw[hil,Kj] at hno;refine aB h' (leo hd) ⟨?_,rfl⟩;have h1:r.b.all bJ=true:=Kk.2 hno;rw[h1];rfl
theorem m7(r:Ru)(hr:r.sm)(h:Hp):aI Tryz.prog 90 [r.v] h (.bool (bM r)):=by
 refine aH (fun L=>trivial) fun h' nx hh=>aC L.aWB fun hd=>?_;obtain⟨⟨hr',ho,hl⟩,g,c,o,b,at_⟩:=r;simp only[jL,jM,jA,jB,jN,jO,jP,jQ,V.undef];have C1:∀h:Hp,aI Tryz.prog 140 [.agg [.str hr', .sl (.agg 4) ho (hl.map Tr.v)]] h (.bool (fO ⟨hr',ho,hl⟩)):=fun h=>vZ ⟨hr',ho,hl⟩ hr.1 h;by_cases hc:0≤c∧c<hl.length
 ·obtain⟨n,rfl⟩:∃n:Nat,c=n:=⟨c.toNat,or⟩;have hn:n<hl.length:=or;have g1:decide ((n:Int)<0)=false:=dcf;have g2:decide ((hl.length:Int)≤(n:Int))=false:=dcf;have g3:decide ((n:Int)≥(hl.length:Int))=false:=dcf;have hg:=aM Tr.v hl n hn;have hD:hl.getD n kw=hl[n]:=by rw[List.getD_eq_getElem?_getD,List.getElem?_eq_getElem hn];rfl
  have s0:((hl[n].x.size:Int)==0)=decide (hl[n].x.size=0):=by rw[Ka];simp
  (repeat' (first|(with_reducible first|refine stp ?_|refine bW ZM ?_|refine nL (fun _=>?_) (fun _=>?_))|((first|(with_reducible refine kQ ?_;first|refine iI rfl ?_ ?_|refine aK (C1 _) rfl (aL _) ?_|refine Zx ?_)|(with_reducible refine kU ?_;first|refine iM rfl ?_ ?_|refine ZX ?_)|refine Zy ?_)<;>try simp only[Ru.v.eq_1,g1,g2,g3,hg,hn,s0,Tr.v.eq_1,jK,jG,go_sem,reduceIte,jA,jB,jC,jD,reduceCtorEq,jE,jF])|refine ZY ?_|omega))
  all_goals first
   |exact je ⟨⟨hr',ho,hl⟩,g,n,o,b,at_⟩ hr (by simp_all [bt];try omega) h' nx hd _ (by simp only[WkL,aD,jH,jI,jJ,go_sem,reduceIte,jA,jB,jC,jD,reduceCtorEq,jE,jF])
   |(refine aB h' (leo hd) ⟨vb ?_,rfl⟩
     simp_all [bM,bt]
     try omega
     try (intro q;exfalso;split at q<;>omega))
 rcases(by omega:c<0∨(0≤c∧(hl.length:Int)≤c)) with hc|⟨hc0,hc⟩
 ·have g1:decide (c<0)=true:=dct
  (repeat' (first|(with_reducible first|refine stp ?_|refine bW ZM ?_|refine nL (fun _=>?_) (fun _=>?_))|((first|(with_reducible refine kQ ?_;first|refine iI rfl ?_ ?_|refine aK (C1 _) rfl (aL _) ?_|refine Zx ?_)|(with_reducible refine kU ?_;first|refine iM rfl ?_ ?_|refine ZX ?_)|refine Zy ?_)<;>try simp only[Ru.v.eq_1,g1,jK,go_sem,reduceIte,jA,jB,jC,jD,reduceCtorEq,jE,jF])|refine ZY ?_|omega))
  all_goals first
   |exact je ⟨⟨hr',ho,hl⟩,g,c,o,b,at_⟩ hr (by simp_all [bt];try omega) h' nx hd _ (by simp only[WkL,aD,jH,jI,jJ,go_sem,reduceIte,jA,jB,jC,jD,reduceCtorEq,jE,jF])
   |(refine aB h' (leo hd) ⟨vb ?_,rfl⟩
     simp_all [bM,bt]
     try omega
     try (intro q;exfalso;split at q<;>omega))
 have g1:decide (c<0)=false:=dcf;have g2:decide ((hl.length:Int)≤c)=true:=dct;have g3:decide (c≥(hl.length:Int))=true:=dct
 (repeat' (first|(with_reducible first|refine stp ?_|refine bW ZM ?_|refine nL (fun _=>?_) (fun _=>?_))|((first|(with_reducible refine kQ ?_;first|refine iI rfl ?_ ?_|refine aK (C1 _) rfl (aL _) ?_|refine Zx ?_)|(with_reducible refine kU ?_;first|refine iM rfl ?_ ?_|refine ZX ?_)|refine Zy ?_)<;>try simp only[Ru.v.eq_1,g1,g2,g3,jK,go_sem,reduceIte,jA,jB,jC,jD,reduceCtorEq,jE,jF])|refine ZY ?_|omega))
 all_goals first
  |exact je ⟨⟨hr',ho,hl⟩,g,c,o,b,at_⟩ hr (by simp_all [bt];try omega) h' nx hd _ (by simp only[WkL,aD,jH,jI,jJ,go_sem,reduceIte,jA,jB,jC,jD,reduceCtorEq,jE,jF])
  |(refine aB h' (leo hd) ⟨vb ?_,rfl⟩
    simp_all [bM,bt]
    try omega
    try (intro q;exfalso;split at q<;>omega))
end Go.Proofs.YtgbiopfghdilnaaGreatDoor
namespace Go.Proofs.YtgbiopfghdilnaaGreatDoor
open Go.RowKit Go.Sort
theorem pV:∀(n:Nat) (e:Ex),dU n e.cp=dU n e
 |0, .mk op t o ks=>by
  have:(Ex.cps ks=[])=(ks=[]):=by rw[Ex.aA5];simp
  show decide (op=0∧Ex.cps ks=[]∧_)=decide (op=0∧ks=[]∧_);simp only[this]
 |n+1, .mk op t o ks=>by
  match ks with
  | []=>rfl
  | [a]=>rfl
  | [a,b]=>
   show dU (n+1) (.mk op t _ [a.cp,b.cp])=_;rw[yQ,yQ,pV n a,pV n b]
  |a::b::c::r=>
   rw[oL _ _ _ _ _ Zm];show dU (n+1) (.mk op t _ (a.cp::b.cp::c.cp::Ex.cps r))=_;rw[oL _ _ _ _ _ Zm];simp
theorem kv(e:Ex):iS e.cp=iS e:=by
 obtain⟨op,t,o,ks⟩:=e;have:(Ex.cps ks=[])=(ks=[]):=by rw[Ex.aA5];simp
 show(decide (op=0∧Ex.cps ks=[])&&mC t)=(decide (op=0∧ks=[])&&mC t);simp only[this]
theorem xf(l:Li):bJ l.cp=bJ l:=by
 have h1:iB l.cp.x=iB l.x:=pV 20 l.x;have h2:iB l.cp.y=iB l.y:=pV 20 l.y;have h3:iS l.cp.x=iS l.x:=kv l.x;have h4:iS l.cp.y=iS l.y:=kv l.y;unfold bJ;rw[h1,h2,h3,h4];rfl
theorem xe(r:Ru):bM r.cp=bM r:=by
 unfold bM;have h1:r.cp.b.all bJ=r.b.all bJ:=by
  show(r.b.map Li.cp).all bJ=_;rw[List.all_map];congr 1;funext l;exact xf l
 have h2:r.cp.b.length=r.b.length:=List.length_map ..;rw[h1,h2];rfl
theorem Ex.aCy:∀(n:Nat) (e:Ex),SizeOf.sizeOf e≤n→e.sm→e.cp.sm
 |0, .mk op t o ks,h,_=>by simp at h
 |n+1, .mk op t o ks,h,hs=>by
  have hk:∀e∈ks,SizeOf.sizeOf e≤n:=fun e he=>by
   have:=Kc he;simp only[Ex.mk.sizeOf_spec] at h;omega
  refine⟨hs.1,?_⟩;have h2:=hs.2;clear hs h;show Ex.sms (Ex.cps ks);induction ks with
  |nil=>trivial
  |cons a r ih=>exact⟨Ex.aCy n a (hk a Kg) h2.1,ih (fun e he=>hk e (Ke _ he)) h2.2⟩
theorem Ru.aCy{r:Ru}(h:r.sm):r.cp.sm:=by
 refine⟨h.1,fun l hl=>?_⟩;obtain⟨m,hm,rfl⟩:=List.mem_map.1 hl;obtain⟨q1,q2,q3⟩:=h.2 m hm;exact⟨q1,Ex.aCy _ m.x (Kd _) q2,Ex.aCy _ m.y (Kd _) q3⟩
theorem Tr.aBG{t:Tr}(h:t.s47):t.sm:=by
 obtain⟨h1,h2⟩:=h;unfold nW at h1 h2;exact⟨or,or⟩
theorem Ex.aBG:∀(n:Nat) (e:Ex),SizeOf.sizeOf e≤n→e.s47→e.sm
 |0, .mk op t o ks,h,_=>by simp at h
 |n+1, .mk op t o ks,h,hs=>by
  have hk:∀e∈ks,SizeOf.sizeOf e≤n:=fun e he=>by
   have:=Kc he;simp only[Ex.mk.sizeOf_spec] at h;omega
  refine⟨Tr.aBG hs.1,?_⟩;have h2:=hs.2;clear hs h;induction ks with
  |nil=>trivial
  |cons a r ih=>exact⟨Ex.aBG n a (hk a Kg) h2.1,ih (fun e he=>hk e (Ke _ he)) h2.2⟩
theorem Am.aBG{a:Am}(h:a.s47):a.sm:=by
 have:=h.1;unfold nW at this;exact⟨or,fun t ht=>Tr.aBG (h.2 t ht)⟩
theorem Ru.aBG{r:Ru}(h:r.s47):r.sm:=⟨Am.aBG h.1,fun l hl=>⟨Am.aBG (h.2 l hl).1,Ex.aBG _ _ (Kd _) (h.2 l hl).2.1,Ex.aBG _ _ (Kd _) (h.2 l hl).2.2⟩⟩
end Go.Proofs.YtgbiopfghdilnaaGreatDoor
