/-
Texts of this proof,one behind the other. No conditions.
-/
import Derived.Test.YtlhedpgobaellaaGreatDoorK0
import Derived.WalkKit
import Derived.WalkSpells
import Derived.MapKept
import Derived.WideKeyRuns
open Option renaming bind_eq_some_iff→Ka,map_eq_some_iff→Kb,map_some→Kq,isSome_none→Kz,map_none→KA,bind_some→KH,isSome_some→KZ,map→Qz
open Go.Result renaming andThen_ok→Kc
open Go.Sem renaming run_bind→Kd,run_pure→Kf,run_ite→Qe
open List renaming getD_eq_getElem?_getD→Ke,getElem?_eq_getElem→Ki,range→Kx,all_eq_true→Ky,getElem_mem→KC,getElem?_append_right→KI,getElem?_take→KN,getElem?_drop→KO,mem_of_mem_drop→KU,mem_of_mem_take→KV,getElem?_append_left→Qa,getElem_of_mem→Qf,length_append→Qh,append_assoc→Qk,length_cons→Ql
open Array renaming getD_eq_getD_getElem?→Kg,getElem?_eq_getElem→Ks,getElem?_eq_none→KF,ext'→KX,toList_zipIdx→Qg,foldl_toList→Qi,ext→QA
open Go renaming undef→Kh
open Nat renaming lt_of_lt_of_le→Kj,add_assoc→Km,le_refl→Ko,mul_le_mul_right→Ku,add_mul→KD,add_zero→KP,le_trans→KW,lt_or_ge→Qc,zero_add→Qj,ne_of_lt→Qv,zero_mul→Qw,add_comm→Qx,mul_one→Qy
open Bool renaming and_eq_true→Kk,false_eq_true→Kt
open Go.Instr renaming sliceBounds→Kp,sureAddr→Kv,checkKey→Kw,sliceBound→KE,lookup→KG,findAsking→KJ,typeAssert→KK,sameNow→KQ,findNow→KR,indexAt→KS,sliceAt→Qb,loadAt→Qd,findKey→Qm,fieldAt→Qo,slice→Qr,index→Qt,fill→Qu
open Go.World renaming shape?→KB,cell?→KY
open Int renaming le_refl→KL,toNat_zero→Qq
open Go.Builtin renaming len_→KM,cap_→Qp
set_option linter.all false
set_option maxHeartbeats 8000000
namespace Go.Proofs.YtlhedpgobaellaaGreatDoor
def iG(l:List UInt8):Value:= .string ⟨l.toArray⟩
def GT:List (Nat×List Value):=
 (3,[iG [114,101,108],iG [105,110,116],iG [115,121,109],iG [110,111,116],iG [99,111,117,110,116],iG [115,117,109],iG [109,105,110],iG [109,97,120]])::
 (2,[iG [58,45],iG [33,61],iG [60,61],iG [62,61],iG [40],iG [41],iG [44],iG [46],iG [61],iG [60],iG [62],iG [43],iG [45],iG [42]])::
 (0,[iG [99,111,117,110,116],iG [115,117,109],iG [109,105,110],iG [109,97,120]])::
 (1,[iG [61],iG [33,61],iG [60],iG [60,61],iG [62],iG [62,61]])::
 (7,(Kx 20).map fun i=>Value.int .u64 ((10 ^ i:Nat):Int))::
  []
def GI:List Nat:=
 4::
 5::
  []
end Go.Proofs.YtlhedpgobaellaaGreatDoor
namespace Go.Proofs.YtlhedpgobaellaaGreatDoor
open Go.RowKit
inductive Sh where
 |leaf
 |agg (n:Nat)
 deriving DecidableEq,Inhabited
def Sh.size:Sh→Nat
 | .leaf=>1
 | .agg n=>n
inductive Own where
 |nil
 |full
 |tok (n:Nat)
 |free
 deriving DecidableEq,Inhabited
inductive V where
 |bool (b:Bool)
 |int (k:IntKind) (n:Int)
 |str (s:ByteArray)
 |nilPtr
 |ptr (n:Nat) (k:Sh) (i o:Nat)
 |ept (k:Sh) (es:List V) (i o:Nat)
 |sl (k:Sh) (own:Own) (es:List V)
 |rs (n:Nat) (k:Sh) (off len:Nat)
 |aAG
 |map (n:Nat)
 |aAL
 |chan (n:Nat)
 |fn (f:Fn) (first cap:List V)
 |aAV
 |yld (n:Nat)
 |iface (t:Nat) (v:V)
 |nilIface
 |agg (cs:List V)
 |tup (vs:List V)
 |top
 deriving Inhabited
def V.undef:V:= .tup []
def V.aAE:V→Bool
 | .agg _=>false
 | .tup _=>false
 | .top=>false
 |_=>true
def V.cells:V→List V
 | .agg cs=>cs
 |v=>[v]
def V.cell(e:V)(j:Nat):V:=e.cells.getD j V.undef
def V.fits:Sh→V→Bool
 | .leaf,v=>v.aAE
 | .agg n, .agg cs=>decide (cs.length=n)&&cs.all V.aAE
 | .agg _,_=>false
structure Ker where
 w:World
 mu:Nat→Nat
 imm:Nat→Nat
 tp:Nat→Nat
 live:Nat→Prop
 fro:Nat→Prop
def Ker.still(K:Ker)(b o:Nat):Prop:=K.fro b∨o<K.imm b
def gM(w:World)(b:Nat):Prop:=w.heap[b]?=some (.deferred (some []))
structure pN(F:Nat→Prop)(w w':World):Prop where
 os:w'.os=w.os
 tape:w'.tape=w.tape
 output:w'.output=w.output
 drawn:w.drawn≤w'.drawn
 size:w.heap.size≤w'.heap.size
 block:∀b,b<w.heap.size→F b∨gM w b→w'.heap[b]?=w.heap[b]?
theorem pN.refl(F:Nat→Prop)(w:World):pN F w w:=⟨rfl,rfl,rfl,Ko _,Ko _,fun _ _ _=>rfl⟩
theorem pN.trans{F:Nat→Prop}{a b c:World}(h:pN F a b)(k:pN F b c):pN F a c:=
 ⟨k.os.trans h.os,k.tape.trans h.tape,k.output.trans h.output,KW h.drawn k.drawn,KW h.size k.size,fun i hi hF=>(k.block i (Kj hi h.size) (hF.imp (fun h=>h) fun hm=>(h.block i hi (.inr hm)).trans hm)).trans (h.block i hi hF)⟩
theorem pN.drew{F:Nat→Prop}(w:World):pN F w w.drew:=⟨rfl,rfl,rfl,Nat.le_succ _,Ko _,fun _ _ _=>rfl⟩
theorem pN.alloc{F:Nat→Prop}(w:World)(o:Obj):pN F w (w.alloc o):=⟨rfl,rfl,rfl,Ko _,Zm,fun k hk _=>Below.heap_alloc w o k hk⟩
inductive VR(K:Ker):V→Value→Prop where
 |bool (b:Bool):VR K (.bool b) (.bool b)
 |int (k:IntKind) (n:Int):VR K (.int k n) (.int k n)
 |str (s:ByteArray):VR K (.str s) (.string s)
 |nilPtr:VR K .nilPtr (.pointer none)
 |ptr (n:Nat) (k:Sh) (i o:Nat) (h:K.live n):VR K (.ptr n k i o) (.pointer (some ⟨K.mu n,i*k.size+o,none⟩))
 |ept (k:Sh) (es:List V) (i o b off:Nat) (f:Nat→Value) (hb:b<K.w.heap.size) (hfit:∀e∈es,e.fits k=true)
  (hcell:∀j,j<es.length*k.size→K.w.cell? ⟨b,off+j,none⟩=some (f j)) (hst:∀j,j<es.length*k.size→K.still b (off+j))
  (hv:∀i,i<es.length→∀j,j<k.size→VR K ((es.getD i V.undef).cell j) (f (i*k.size+j))):
  VR K (.ept k es i o) (.pointer (some ⟨b,off+(i*k.size+o),none⟩))
 |slnil (k:Sh):VR K (.sl k .nil []) (.slice none 0 0)
 |slz (k:Sh) (a:Addr):VR K (.sl k .free []) (.slice (some a) 0 0)
 |sl (k:Sh) (own:Own) (es:List V) (b off cap:Nat) (f:Nat→Value) (hb:b<K.w.heap.size) (hfit:∀e∈es,e.fits k=true)
  (hcell:∀j,j<es.length*k.size→K.w.cell? ⟨b,off+j,none⟩=some (f j)) (hst:∀j,j<es.length*k.size→K.still b (off+j))
  (hv:∀i,i<es.length→∀j,j<k.size→VR K ((es.getD i V.undef).cell j) (f (i*k.size+j)))
  (hcap:es.length≤cap) (hnil:own≠ .nil) (hfull:own= .full→cap=es.length)
  (htok:∀n,own= .tok n→K.live n∧(cap=es.length∨K.mu n=b∧K.tp n=off+es.length*k.size∧∃T m,K.w.shape? b=some (T,m)∧off+cap*k.size≤m)):
  VR K (.sl k own es) (.slice (some ⟨b,off,none⟩) es.length cap)
 |rs (n:Nat) (k:Sh) (off len cap:Nat) (h:K.live n) (hcap:len≤cap) (hm:∃T m,K.w.shape? (K.mu n)=some (T,m)∧(off+cap)*k.size=m):
  VR K (.rs n k off len) (.slice (some ⟨K.mu n,off*k.size,none⟩) len cap)
 |aAG:VR K .aAG (.map none)
 |map (n:Nat) (h:K.live n):VR K (.map n) (.map (some (K.mu n)))
 |aAL:VR K .aAL (.chan none)
 |chan (n:Nat) (h:K.live n):VR K (.chan n) (.chan (some (K.mu n)))
 |fn (f:Fn) (first cap:List V) (cfirst ccap:Array Value) (h1:first.length=cfirst.size) (h2:cap.length=ccap.size)
  (v1:∀i,i<first.length→VR K (first.getD i V.undef) (cfirst.getD i Kh)) (v2:∀i,i<cap.length→VR K (cap.getD i V.undef) (ccap.getD i Kh)):
  VR K (.fn f first cap) (.func f cfirst ccap)
 |aAV:VR K .aAV .nilFunc
 |yld (n:Nat) (h:K.live n):VR K (.yld n) (.func (.yield (K.mu n)) #[] #[])
 |iface (t:Nat) (v:V) (cv:Value) (h:VR K v cv):VR K (.iface t v) (.iface t cv)
 |nilIface:VR K .nilIface .nilIface
 |agg (cs:List V) (ccs:Array Value) (h:cs.length=ccs.size) (v:∀i,i<cs.length→VR K (cs.getD i V.undef) (ccs.getD i Kh)):VR K (.agg cs) (.agg ccs)
 |tup (cs:List V) (ccs:Array Value) (h:cs.length=ccs.size) (v:∀i,i<cs.length→VR K (cs.getD i V.undef) (ccs.getD i Kh)):VR K (.tup cs) (.tuple ccs)
 |top (cv:Value):VR K .top cv
structure Ker.le(K K':Ker):Prop where
 live:∀n,K.live n→K'.live n
 mu:∀n,K.live n→K'.mu n=K.mu n
 tp:∀n,K.live n→K'.tp n=K.tp n
 fro:K'.fro=K.fro
 imm:∀b,b<K.w.heap.size→K.imm b≤K'.imm b
 cell:∀b o,b<K.w.heap.size→K.still b o→K'.w.cell? ⟨b,o,none⟩=K.w.cell? ⟨b,o,none⟩
 shape:∀b,b<K.w.heap.size→K'.w.shape? b=K.w.shape? b
 below:pN K.fro K.w K'.w
theorem Ker.le.refl(K:Ker):K.le K:=⟨fun _ h=>h,fun _ _=>rfl,fun _ _=>rfl,rfl,fun _ _=>Ko _,fun _ _ _ _=>rfl,fun _ _=>rfl,pN.refl _ _⟩
theorem Ker.le.still{K K':Ker}(h:K.le K'){b o:Nat}(hb:b<K.w.heap.size)(hs:K.still b o):K'.still b o:=by
 rcases hs with hs|hs
 ·exact .inl (by rw[h.fro];exact hs)
 exact .inr (Kj hs (h.imm b hb))
theorem Ker.le.trans{K K' K'':Ker}(h:K.le K')(h':K'.le K''):K.le K'' where
 live n hn:=h'.live n (h.live n hn)
 mu n hn:=(h'.mu n (h.live n hn)).trans (h.mu n hn)
 tp n hn:=(h'.tp n (h.live n hn)).trans (h.tp n hn)
 fro:=h'.fro.trans h.fro
 imm b hb:=KW (h.imm b hb) (h'.imm b (Kj hb h.below.size))
 cell b o hb hs:=(h'.cell b o (Kj hb h.below.size) (h.still hb hs)).trans (h.cell b o hb hs)
 shape b hb:=(h'.shape b (Kj hb h.below.size)).trans (h.shape b hb)
 below:=h.below.trans (h.fro▸h'.below)
structure Ker.leV(K K':Ker):Prop where
 live:∀n,K.live n→K'.live n
 mu:∀n,K.live n→K'.mu n=K.mu n
 tp:∀n,K.live n→K'.tp n=K.tp n
 fro:K'.fro=K.fro
 imm:∀b,b<K.w.heap.size→K.imm b≤K'.imm b
 cell:∀b o,b<K.w.heap.size→K.still b o→K'.w.cell? ⟨b,o,none⟩=K.w.cell? ⟨b,o,none⟩
 shape:∀b,b<K.w.heap.size→K'.w.shape? b=K.w.shape? b
 size:K.w.heap.size≤K'.w.heap.size
theorem Ker.le.toV{K K':Ker}(h:K.le K'):K.leV K':=⟨h.live,h.mu,h.tp,h.fro,h.imm,h.cell,h.shape,h.below.size⟩
theorem Ker.leV.refl(K:Ker):K.leV K:=(Ker.le.refl K).toV
theorem Ker.leV.still{K K':Ker}(h:K.leV K'){b o:Nat}(hb:b<K.w.heap.size)(hs:K.still b o):K'.still b o:=by
 rcases hs with hs|hs
 ·exact .inl (by rw[h.fro];exact hs)
 exact .inr (Kj hs (h.imm b hb))
theorem Ker.leV.trans{K K' K'':Ker}(h:K.leV K')(h':K'.leV K''):K.leV K'' where
 live n hn:=h'.live n (h.live n hn)
 mu n hn:=(h'.mu n (h.live n hn)).trans (h.mu n hn)
 tp n hn:=(h'.tp n (h.live n hn)).trans (h.tp n hn)
 fro:=h'.fro.trans h.fro
 imm b hb:=KW (h.imm b hb) (h'.imm b (Kj hb h.size))
 cell b o hb hs:=(h'.cell b o (Kj hb h.size) (h.still hb hs)).trans (h.cell b o hb hs)
 shape b hb:=(h'.shape b (Kj hb h.size)).trans (h.shape b hb)
 size:=KW h.size h'.size
theorem VR.aAl{K K':Ker}(h:K.leV K'){v:V}{cv:Value}(r:VR K v cv):VR K' v cv:=by
 induction r with
 |bool b=>exact .bool b
 |int k n=>exact .int k n
 |str s=>exact .str s
 |nilPtr=>exact .nilPtr
 |ptr n k i o hn=>rw[←h.mu n hn];exact .ptr n k i o (h.live n hn)
 |ept k es i o b off f hb hfit hcell hst hv ih=>
  exact .ept k es i o b off f (Kj hb h.size) hfit (fun j hj=>(h.cell b _ hb (hst j hj)).trans (hcell j hj)) (fun j hj=>h.still hb (hst j hj)) ih
 |slnil k=>exact .slnil k
 |slz k a=>exact .slz k a
 |sl k own es b off cap f hb hfit hcell hst hv hcap hnil hfull htok ih=>
  refine .sl k own es b off cap f (Kj hb h.size) hfit (fun j hj=>(h.cell b _ hb (hst j hj)).trans (hcell j hj)) (fun j hj=>h.still hb (hst j hj)) ih hcap hnil hfull ?_;intro n hn;obtain⟨a,q⟩:=htok n hn;refine⟨h.live n a,?_⟩;rcases q with q|⟨c,d,T,m,g,i⟩
  ·exact .inl q
  exact .inr ⟨(h.mu n a).trans c,(h.tp n a).trans d,T,m,(h.shape b hb).trans g,i⟩
 |rs n k off len cap hn hcap hm=>
  rw[←h.mu n hn];refine .rs n k off len cap (h.live n hn) hcap ?_;obtain⟨T,m,a,b⟩:=hm;refine⟨T,m,?_,b⟩;rw[h.mu n hn,h.shape _ ?_]
  ·exact a
  unfold KB at a;rcases Qc (K.mu n) K.w.heap.size with hlt|hge
  ·exact hlt
  rw[KF hge] at a;exact absurd a Zm
 |aAG=>exact .aAG
 |map n hn=>rw[←h.mu n hn];exact .map n (h.live n hn)
 |aAL=>exact .aAL
 |chan n hn=>rw[←h.mu n hn];exact .chan n (h.live n hn)
 |fn f first cap cfirst ccap h1 h2 _ _ v1 v2=>exact .fn f first cap cfirst ccap h1 h2 v1 v2
 |aAV=>exact .aAV
 |yld n hn=>rw[←h.mu n hn];exact .yld n (h.live n hn)
 |iface t v cv _ ih=>exact .iface t v cv ih
 |nilIface=>exact .nilIface
 |agg cs ccs hl _ ih=>exact .agg cs ccs hl ih
 |tup cs ccs hl _ ih=>exact .tup cs ccs hl ih
 |top cv=>exact .top cv
theorem VR.mono{K K':Ker}(h:K.le K'){v:V}{cv:Value}(r:VR K v cv):VR K' v cv:=r.aAl h.toV
def VRs(K:Ker)(vs:List V)(cvs:Array Value):Prop:=vs.length=cvs.size∧∀i,i<vs.length→VR K (vs.getD i V.undef) (cvs.getD i Kh)
theorem VRs.mono{K K':Ker}(h:K.le K'){vs:List V}{cvs:Array Value}(r:VRs K vs cvs):VRs K' vs cvs:=⟨r.1,fun i hi=>(r.2 i hi).mono h⟩
theorem VR.undef(K:Ker):VR K V.undef Kh:= .tup [] #[] rfl (fun i hi=>absurd hi Zm)
theorem VR.aA5{K:Ker}{v:V}{cv:Value}(r:VR K v cv)(h:v.aAE=true):cv.oneCell'=true:=by
 cases r<;>first|rfl|(simp[V.aAE] at h)
theorem VR.cells{K:Ker}{k:Sh}{v:V}{cv:Value}(r:VR K v cv)(h:v.fits k=true):
 v.cells.length=k.size∧cv.cells.size=k.size∧(∀j,j<k.size→VR K (v.cell j) (cv.cells.getD j Kh))∧(∀j,j<k.size→(v.cell j).aAE=true):=by
 cases k with
 |leaf=>
  simp only[V.fits] at h;have e1:v.cells=[v]:=by cases v<;>first|rfl|(simp[V.aAE] at h)
  have e2:cv.cells=#[cv]:=by cases r<;>first|rfl|(simp[V.aAE] at h)
  refine⟨by rw[e1];rfl,by rw[e2];rfl,?_,?_⟩
  ·intro j hj;have:j=0:=by simp[Sh.size] at hj;exact hj
   subst this;unfold V.cell;rw[e1,e2];exact r
  intro j hj;have:j=0:=by simp[Sh.size] at hj;exact hj
  subst this;unfold V.cell;rw[e1];exact h
 |agg n=>
  cases r with
  |agg cs ccs hl hv=>
   simp only[V.fits,Kk,decide_eq_true_eq,Ky] at h;obtain⟨h1,h2⟩:=h;refine⟨h1,by show ccs.size=n;omega,fun j hj=>hv j (by simp only[Sh.size] at hj;omega),?_⟩;intro j hj;simp only[Sh.size] at hj;have hj':j<cs.length:=or;show(cs.getD j V.undef).aAE=true;rw[Ke,Ki hj'];exact h2 _ (KC _)
  |_=>simp[V.fits] at h
theorem VR.aDz{K:Ker}{n:Nat}{v:V}{ccs:Array Value}(h:v.fits (.agg n)=true)(hs:ccs.size=n)(hv:∀j,j<n→VR K (v.cell j) (ccs.getD j Kh)):VR K v (.agg ccs):=by
 cases v with
 |agg cs=>
  simp only[V.fits,Kk,decide_eq_true_eq] at h;exact .agg cs ccs or (fun i hi=>hv i or)
 |_=>simp[V.fits] at h
structure ME where
 k:V
 v:V
 b:Nat
 deriving Inhabited
inductive Blk where
 |arr (k:Sh) (es:List V)
 |tip
 |obj (o:Obj) (U:Ker→Prop)
 |mp (es:List ME) (c:Nat)
 |mit (m since:Nat) (seen:List Nat) (last:Nat)
 deriving Inhabited
def Blk.mem:Blk→Bool
 | .arr _ _=>true
 | .mp _ _=>true
 |_=>false
abbrev Hp:=Nat→Option Blk
def Hp.set(h:Hp)(n:Nat)(b:Blk):Hp:=fun m=>if m=n then some b else h m
def Hp.del(h:Hp)(n:Nat):Hp:=fun m=>if m=n then none else h m
def Hp.le(h h':Hp):Prop:=∀n b,h n=some b→h' n=some b
theorem Hp.le_refl(h:Hp):h.le h:=fun _ _ e=>e
def iL:Obj→Bool
 | .cells .. =>false
 | .deferred .. =>false
 |_=>true
inductive BR(K:Ker)(n:Nat):Blk→Prop where
 |arr (k:Sh) (es:List V) (c:Array Value) (T:Nat) (hh:K.w.heap[K.mu n]?=some (.cells c T (0,0))) (hsz:es.length*k.size≤c.size) (hi:K.imm (K.mu n)=0)
  (hfit:∀e∈es,e.fits k=true) (hv:∀i,i<es.length→∀j,j<k.size→VR K ((es.getD i V.undef).cell j) (c.getD (i*k.size+j) Kh)):BR K n (.arr k es)
 |tip (c:Array Value) (T:Nat) (hh:K.w.heap[K.mu n]?=some (.cells c T (0,0))) (hi:K.imm (K.mu n)=K.tp n) (ht:K.tp n≤c.size):BR K n .tip
 |obj (o:Obj) (U:Ker→Prop) (hh:K.w.heap[K.mu n]?=some o) (ho:iL o=true) (hu:U K) (hU:∀A B:Ker,A.leV B→U A→U B):BR K n (.obj o U)
 |mp (es:List ME) (c:Nat) (ces:Array MapEntry) (hh:K.w.heap[K.mu n]?=some (.map ces c)) (hl:es.length=ces.size)
  (hv:∀i,i<es.length→VR K (es.getD i default).k (ces.getD i default).key∧VR K (es.getD i default).v (ces.getD i default).val∧(ces.getD i default).born=(es.getD i default).b):BR K n (.mp es c)
 |mit (m since:Nat) (seen:List Nat) (last:Nat) (hh:K.w.heap[K.mu n]?=some (.mapIter (some (K.mu m)) since seen.toArray last)) (hm:K.live m):BR K n (.mit m since seen last)
structure iV(K:Ker):Prop where
 lt:∀b,K.fro b→b<K.w.heap.size
 gt:∀g cs,(g,cs)∈GT→K.fro g∧(∃T,K.w.shape? g=some (T,cs.length))∧∀o,o<cs.length→K.w.cell? ⟨g,o,none⟩=some (cs.getD o Kh)
 gi:∀g,g∈GI→K.fro g∧∃ev,K.w.cell? ⟨g,0,none⟩=some ev∧(ev= .nilIface∨∃te pe,ev= .iface te pe)
theorem iV.aC3{K K':Ker}(f:iV K)(hle:K.leV K'):iV K':=
 ⟨fun b hb=>by rw[hle.fro] at hb;exact Kj (f.lt b hb) hle.size,fun g cs hm=>⟨by rw[hle.fro];exact(f.gt g cs hm).1,by obtain⟨h1,⟨T,h2⟩,h3⟩:=f.gt g cs hm;exact⟨⟨T,(hle.shape g (f.lt g h1)).trans h2⟩,fun o ho=>(hle.cell g o (f.lt g h1) (.inl h1)).trans (h3 o ho)⟩⟩,
   fun g hm=>⟨by rw[hle.fro];exact(f.gi g hm).1,by obtain⟨h1,ev,h2,h3⟩:=f.gi g hm;exact⟨ev,(hle.cell g 0 (f.lt g h1) (.inl h1)).trans h2,h3⟩⟩⟩
theorem iV.keep{K K':Ker}(f:iV K)(hle:K.le K'):iV K':=f.aC3 hle.toV
theorem iV.all{K:Ker}(f:iV K):iV {K with fro:=fun b=>b<K.w.heap.size}:=⟨fun _ hb=>hb,fun g cs hm=>⟨f.lt g (f.gt g cs hm).1,(f.gt g cs hm).2⟩,fun g hm=>⟨f.lt g (f.gi g hm).1,(f.gi g hm).2⟩⟩
theorem iV.re{K K':Ker}(f:iV K)(h1:K'.w=K.w)(h2:K'.fro=K.fro):iV K':=by
 obtain⟨a,b,c⟩:=f;exact⟨by rw[h1,h2];exact a,by rw[h1,h2];exact b,by rw[h1,h2];exact c⟩
structure Rel(K:Ker)(h:Hp):Prop where
 lt:∀n b,h n=some b→K.live n
 base:∀n b,h n=some b→¬K.fro (K.mu n)
 blk:∀n b,h n=some b→BR K n b
 inj:∀n n' b b',h n=some b→h n'=some b'→K.mu n=K.mu n'→n=n'
 size:iV K
theorem Rel.weaken{K:Ker}{h h':Hp}(r:Rel K h)(hl:h'.le h):Rel K h':=
 ⟨fun n b e=>r.lt n b (hl n b e),fun n b e=>r.base n b (hl n b e),fun n b e=>r.blk n b (hl n b e),fun n n' b b' e e'=>r.inj n n' b b' (hl n b e) (hl n' b' e'),r.size⟩
theorem BR.lt_size{K:Ker}{n:Nat}{b:Blk}(r:BR K n b):K.mu n<K.w.heap.size:=by
 have key:∀o,K.w.heap[K.mu n]?=some o→K.mu n<K.w.heap.size:=fun o ho=>by
  rcases Qc (K.mu n) K.w.heap.size with hlt|hge
  ·exact hlt
  rw[KF hge] at ho;exact absurd ho Zm
 cases r with
 |arr k es c T hh=>exact key _ hh
 |tip c T hh=>exact key _ hh
 |obj o U hh=>exact key _ hh
 |mp es c ces hh=>exact key _ hh
 |mit m since seen last hh=>exact key _ hh
theorem BR.aAl{K K':Ker}{n:Nat}{b:Blk}(h:K.leV K')(hn:K.live n)(hh:K'.w.heap[K.mu n]?=K.w.heap[K.mu n]?)(hi:K'.imm (K.mu n)=K.imm (K.mu n))(r:BR K n b):BR K' n b:=by
 have em:=h.mu n hn;have et:=h.tp n hn;cases r with
 |arr k es c T hc hsz hi' hfit hv=>exact .arr k es c T (by rw[em,hh];exact hc) hsz (by rw[em,hi];exact hi') hfit (fun i hi j hj=>(hv i hi j hj).aAl h)
 |tip c T hc hi' ht=>exact .tip c T (by rw[em,hh];exact hc) (by rw[em,hi,et];exact hi') (by rw[et];exact ht)
 |obj o U ho hc hu hU=>exact .obj o U (by rw[em,hh];exact ho) hc (hU _ _ h hu) hU
 |mp es c ces hc hl hv=>exact .mp es c ces (by rw[em,hh];exact hc) hl (fun i hi=>⟨(hv i hi).1.aAl h,(hv i hi).2.1.aAl h,(hv i hi).2.2⟩)
 |mit m since seen last ho hm=>exact .mit m since seen last (by rw[em,hh,h.mu m hm];exact ho) (h.live m hm)
theorem BR.mono{K K':Ker}{n:Nat}{b:Blk}(h:K.le K')(hn:K.live n)(hh:K'.w.heap[K.mu n]?=K.w.heap[K.mu n]?)(hi:K'.imm (K.mu n)=K.imm (K.mu n))(r:BR K n b):BR K' n b:=r.aAl h.toV hn hh hi
theorem Rel.aC3{K K':Ker}{h:Hp}(r:Rel K h)(hle:K.leV K')(hh:∀n b,h n=some b→K'.w.heap[K.mu n]?=K.w.heap[K.mu n]?∧K'.imm (K.mu n)=K.imm (K.mu n)):Rel K' h where
 lt n b e:=hle.live n (r.lt n b e)
 base n b e:=by rw[hle.fro,hle.mu n (r.lt n b e)];exact r.base n b e
 blk n b e:=(r.blk n b e).aAl hle (r.lt n b e) (hh n b e).1 (hh n b e).2
 inj n n' b b' e e' em:=by
  rw[hle.mu n (r.lt n b e),hle.mu n' (r.lt n' b' e')] at em;exact r.inj n n' b b' e e' em
 size:=r.size.aC3 hle
theorem Rel.keep{K K':Ker}{h:Hp}(r:Rel K h)(hle:K.le K')(hh:∀n b,h n=some b→K'.w.heap[K.mu n]?=K.w.heap[K.mu n]?∧K'.imm (K.mu n)=K.imm (K.mu n)):Rel K' h:=r.aC3 hle.toV hh
def Ker.push(K:Ker)(a:Nat)(o:Obj)(m:Nat):Ker:=
 {w:=K.w.alloc o,mu:=fun n=>if n=a then K.w.heap.size else K.mu n,imm:=fun b=>if b=K.w.heap.size then m else K.imm b,
  tp:=fun n=>if n=a then m else K.tp n,live:=fun n=>n=a∨K.live n,fro:=K.fro}
theorem eU(w:World)(o:Obj)(b:Nat)(hb:b<w.heap.size):(w.alloc o).heap[b]?=w.heap[b]?:=Below.heap_alloc w o b hb
theorem cT(w:World)(o:Obj):(w.alloc o).heap[w.heap.size]?=some o:=by
 show(w.heap.push o)[w.heap.size]?=some o;simp
theorem vL(w:World)(o:Obj):(w.alloc o).heap.size=w.heap.size+1:=by
 show(w.heap.push o).size=_;simp
theorem gV{w w':World}{b o:Nat}(h:w'.heap[b]?=w.heap[b]?):w'.cell? ⟨b,o,none⟩=w.cell? ⟨b,o,none⟩:=by simp only[KY,h]
theorem kW{w w':World}{b:Nat}(h:w'.heap[b]?=w.heap[b]?):w'.shape? b=w.shape? b:=by simp only[KB,h]
theorem Ker.aAu(K:Ker)(a:Nat)(ha:¬K.live a)(o:Obj)(m:Nat):K.le (K.push a o m) where
 live n hn:= .inr hn
 mu n hn:=by have:n≠a:=fun e=>ha (e▸hn);simp[Ker.push,this]
 tp n hn:=by have:n≠a:=fun e=>ha (e▸hn);simp[Ker.push,this]
 fro:=rfl
 imm b hlt:=by simp[Ker.push,Qv hlt]
 cell b o' hlt _:=gV (eU _ _ _ hlt)
 shape b hlt:=kW (eU _ _ _ hlt)
 below:=pN.alloc _ o
theorem Rel.push{K:Ker}{h:Hp}(r:Rel K h){a:Nat}(ha:¬K.live a)(o:Obj)(m:Nat):Rel (K.push a o m) h:=
 r.keep (K.aAu a ha o m) fun n b e=>by
  have hlt:=(r.blk n b e).lt_size;exact⟨eU _ _ _ hlt,by simp[Ker.push,Qv hlt]⟩
theorem Rel.set_push{K:Ker}{h:Hp}(r:Rel K h){a:Nat}(ha:¬K.live a)(o:Obj)(m:Nat){b:Blk}(hb:BR (K.push a o m) a b):Rel (K.push a o m) (h.set a b):=by
 have r':=r.push ha o m;have hmu:(K.push a o m).mu a=K.w.heap.size:=by simp[Ker.push]
 have hne:∀n b',h n=some b'→(K.push a o m).mu n<K.w.heap.size:=fun n b' e=>by
  have hlt:=(r.blk n b' e).lt_size;rw[(K.aAu a ha o m).mu n (r.lt n b' e)];exact hlt
 refine⟨?_,?_,?_,?_,r'.size⟩
 ·intro n b' e;unfold Hp.set at e;split at e
  ·rename_i hn;exact .inl hn
  exact r'.lt n b' e
 ·intro n b' e;unfold Hp.set at e;split at e
  ·rename_i hn;rw[hn,hmu];exact fun h=>Nat.lt_irrefl _ (r.size.lt _ h)
  exact r'.base n b' e
 ·intro n b' e;unfold Hp.set at e;split at e
  ·rename_i hn;injection e with e;rw[hn,←e];exact hb
  exact r'.blk n b' e
 intro n n' b1 b2 e1 e2 em;unfold Hp.set at e1 e2;split at e1<;>split at e2
 ·omega
 ·rename_i hn hn';rw[hn,hmu] at em;have:=hne n' b2 e2;omega
 ·rename_i hn hn';rw[hn',hmu] at em;have:=hne n b1 e1;omega
 exact r'.inj n n' b1 b2 e1 e2 em
def Ker.drew(K:Ker):Ker:={K with w:=K.w.drew}
theorem Ker.le_drew(K:Ker):K.le K.drew:=⟨fun _ h=>h,fun _ _=>rfl,fun _ _=>rfl,rfl,fun _ _=>Ko _,fun _ _ _ _=>rfl,fun _ _=>rfl,pN.drew _⟩
theorem Rel.drew{K:Ker}{h:Hp}(r:Rel K h):Rel K.drew h:=r.keep K.le_drew fun _ _ _=>⟨rfl,rfl⟩
def Ker.row(K:Ker)(b:Nat)(c:Array Value):Ker:={K with w:=K.w.setRow b c}
theorem pT(w:World)(b:Nat)(c cur:Array Value)(T:TypeId)(fr:Nat×Nat)(hg:w.heap[b]?=some (.cells cur T fr))(hs:c.size=cur.size)(b':Nat):(w.setRow b c).shape? b'=w.shape? b':=by
 by_cases e:b'=b
 ·subst e;simp only[KB,setRow_heap w b' cur c T fr hg,hg,hs]
 simp only[KB,setRow_other w b b' c e]
theorem zK(w:World)(b:Nat)(c:Array Value):(w.setRow b c).heap.size=w.heap.size:=by simp[World.setRow]
theorem j0{F:Nat→Prop}(w:World)(b:Nat)(c:Array Value)(hb:¬F b){cur:Array Value}{T:TypeId}{fr:Nat×Nat}(hg:w.heap[b]?=some (.cells cur T fr)):pN F w (w.setRow b c):=
 ⟨rfl,rfl,rfl,Ko _,by rw[zK];exact Ko _,fun k _ hk=>setRow_other w b k c (fun e=>hk.elim (fun hk=>hb (e▸hk)) fun hk=>by subst e;unfold gM at hk;rw[hg] at hk;cases hk)⟩
theorem Ker.le_row(K:Ker)(b:Nat)(c cur:Array Value)(T:TypeId)(hg:K.w.heap[b]?=some (.cells cur T (0,0)))(hs:c.size=cur.size)(hb:¬K.fro b)
 (aA7:∀o,o<K.imm b→c[o]?=cur[o]?):K.le (K.row b c) where
 live _ hn:=hn
 mu _ _:=rfl
 tp _ _:=rfl
 fro:=rfl
 imm _ _:=Ko _
 cell b' o hlt hst:=by
  by_cases e:b'=b
  ·subst e;rcases hst with h|h
   ·exact absurd h hb
   show((K.w.setRow b' c).cell? ⟨b',o,none⟩)=_;simp only[KY,setRow_heap K.w b' cur c T (0,0) hg,hg,aA7 o h]
  exact gV (setRow_other K.w b b' c e)
 shape b' _:=pT K.w b c cur T (0,0) hg hs b'
 below:=j0 K.w b c hb hg
theorem Rel.row{K:Ker}{h:Hp}(r:Rel K h){n:Nat}{b0 b1:Blk}(hn:h n=some b0)(c cur:Array Value)(T:TypeId)(hg:K.w.heap[K.mu n]?=some (.cells cur T (0,0)))(hs:c.size=cur.size)
 (aA7:∀o,o<K.imm (K.mu n)→c[o]?=cur[o]?) (hb:BR (K.row (K.mu n) c) n b1):Rel (K.row (K.mu n) c) (h.set n b1):=by
 have hle:=K.le_row (K.mu n) c cur T hg hs (r.base n b0 hn) aA7;refine⟨?_,?_,?_,?_,r.size.keep hle⟩
 ·intro m b' e;unfold Hp.set at e;split at e
  ·rename_i hm;subst hm;exact r.lt m b0 hn
  exact r.lt m b' e
 ·intro m b' e;unfold Hp.set at e;split at e
  ·rename_i hm;subst hm;exact r.base m b0 hn
  exact r.base m b' e
 ·intro m b' e;unfold Hp.set at e;split at e
  ·rename_i hm;subst hm;injection e with e;subst e;exact hb
  rename_i hm;refine(r.blk m b' e).mono hle (r.lt m b' e) ?_ rfl;exact setRow_other K.w (K.mu n) (K.mu m) c (fun em=>hm (r.inj m n b' b0 e hn em))
 intro m m' b1' b2' e1 e2 em;unfold Hp.set at e1 e2;have g:∀x bb,(if x=n then some b1 else h x)=some bb→∃b',h x=some b':=fun x bb hx=>by
  split at hx
  ·rename_i hm;subst hm;exact⟨b0,hn⟩
  exact⟨bb,hx⟩
 obtain⟨c1,d1⟩:=g m b1' e1;obtain⟨c2,d2⟩:=g m' b2' e2;exact r.inj m m' c1 c2 d1 d2 em
theorem cL{k i j n:Nat}(hj:j<k)(hi:i<n):i*k+j<n*k:=by
 have:(i+1)*k≤n*k:=Ku _ hi;rw[KD,Nat.one_mul] at this;omega
theorem tA{k j n:Nat}(h:j<n*k):j / k<n∧j % k<k∧j / k*k+j % k=j:=by
 have hk:0<k:=by
  rcases Nat.eq_zero_or_pos k with e|e
  ·subst e;simp at h
  exact e
 exact⟨Nat.div_lt_of_lt_mul (by rwa [Nat.mul_comm] at h),Nat.mod_lt _ hk,Nat.div_add_mod' j k⟩
mutual
def V.names(L:Nat→Prop):V→Prop
 | .ptr n _ _ _=>L n
 | .rs n _ _ _=>L n
 | .map n=>L n
 | .chan n=>L n
 | .yld n=>L n
 | .ept _ es _ _=>bM L es
 | .sl _ own es=>(∀n,own= .tok n→L n)∧bM L es
 | .fn _ a b=>bM L a∧bM L b
 | .iface _ v=>v.names L
 | .agg cs=>bM L cs
 | .tup vs=>bM L vs
 |_=>True
def bM(L:Nat→Prop):List V→Prop
 | []=>True
 |v::vs=>v.names L∧bM L vs
end
theorem iM{L:Nat→Prop}:∀{vs:List V},bM L vs↔∀v∈vs,v.names L
 | []=>by simp[bM]
 |v::vs=>by simp[bM,iM (vs:=vs)]
theorem fI{L:Nat→Prop}{vs:List V}(h:bM L vs)(i:Nat):(vs.getD i V.undef).names L:=by
 by_cases hi:i<vs.length
 ·rw[Ke,Ki hi];exact iM.1 h _ (KC _)
 rw[Ke,List.getElem?_eq_none or];simp[V.undef,V.names,bM]
theorem eP{L:Nat→Prop}{vs:List V}(h:∀i,i<vs.length→(vs.getD i V.undef).names L):bM L vs:=by
 refine iM.2 fun v hv=>?_;obtain⟨i,hi,rfl⟩:=Qf hv;have:=h i hi;rw[Ke,Ki hi] at this;exact this
theorem vA{L:Nat→Prop}{v:V}(h:v.names L)(j:Nat):(v.cell j).names L:=by
 have one:∀w:V,w.names L→((([w]:List V)).getD j V.undef).names L:=fun w hw=>fI (by simp[bM,hw]) j;cases v<;>first|exact one _ h|skip
 case agg cs=>exact fI (vs:=cs) (by simpa [V.names] using h) j
theorem ep{L:Nat→Prop}{k:Sh}{v:V}(hf:v.fits k=true)(h:∀j,j<k.size→(v.cell j).names L):v.names L:=by
 cases k with
 |leaf=>
  simp only[V.fits] at hf;have e1:v.cells=[v]:=by cases v<;>first|rfl|(simp[V.aAE] at hf)
  have:=h 0 (by simp[Sh.size]);simpa [V.cell,e1] using this
 |agg n=>
  cases v with
  |agg cs=>
   simp only[V.fits,Kk,decide_eq_true_eq] at hf;show bM L cs;exact eP fun i hi=>h i (by show i<n;omega)
  |_=>simp[V.fits] at hf
theorem bF{α:Type}{L:Nat→Prop}{f:α→V}(h:∀x,(f x).names L)(l:List α):bM L (l.map f):=by
 refine iM.2 fun v hv=>?_;obtain⟨x,_,rfl⟩:=List.mem_map.1 hv;exact h x
theorem VR.free{K:Ker}{k:Sh}{own:Own}{es:List V}{cv:Value}(r:VR K (.sl k own es) cv)(h:own≠ .nil):VR K (.sl k .free es) cv:=by
 cases r with
 |slnil=>exact absurd rfl h
 |slz=>exact .slz _ _
 |sl _ _ _ b off cap f hb hfit hcell hst hv hcap hnil hfull htok=>exact .sl k .free es b off cap f hb hfit hcell hst hv hcap Zm Zm (fun n e=>by cases e)
def Ker.only(K:Ker)(L:Nat→Prop):Ker:={K with live:=L}
theorem VR.only{K:Ker}{v:V}{cv:Value}(r:VR K v cv)(L:Nat→Prop)(hn:v.names L):VR (K.only L) v cv:=by
 induction r with
 |bool b=>exact .bool b
 |int k n=>exact .int k n
 |str s=>exact .str s
 |nilPtr=>exact .nilPtr
 |ptr n k i o h=>exact .ptr n k i o hn
 |ept k es i o b off f hb hfit hcell hst hv ih=>exact .ept k es i o b off f hb hfit hcell hst fun i hi j hj=>ih i hi j hj (vA (fI hn i) j)
 |slnil k=>exact .slnil k
 |slz k a=>exact .slz k a
 |sl k own es b off cap f hb hfit hcell hst hv hcap hnil hfull htok ih=>
  exact .sl k own es b off cap f hb hfit hcell hst (fun i hi j hj=>ih i hi j hj (vA (fI hn.2 i) j)) hcap hnil hfull fun n e=>⟨hn.1 n e,(htok n e).2⟩
 |rs n k off len cap h hcap hm=>exact .rs n k off len cap hn hcap hm
 |aAG=>exact .aAG
 |map n h=>exact .map n hn
 |aAL=>exact .aAL
 |chan n h=>exact .chan n hn
 |fn f first cap cfirst ccap h1 h2 _ _ v1 v2=>exact .fn f first cap cfirst ccap h1 h2 (fun i hi=>v1 i hi (fI hn.1 i)) (fun i hi=>v2 i hi (fI hn.2 i))
 |aAV=>exact .aAV
 |yld n h=>exact .yld n hn
 |iface t v cv _ ih=>exact .iface t v cv (ih hn)
 |nilIface=>exact .nilIface
 |agg cs ccs hl _ ih=>exact .agg cs ccs hl fun i hi=>ih i hi (fI (vs:=cs) hn i)
 |tup cs ccs hl _ ih=>exact .tup cs ccs hl fun i hi=>ih i hi (fI (vs:=cs) hn i)
 |top cv=>exact .top cv
theorem VR.names{K:Ker}{v:V}{cv:Value}(r:VR K v cv):v.names K.live:=by
 have row:∀(k:Sh) (es:List V),(∀e∈es,e.fits k=true)→(∀i,i<es.length→∀j,j<k.size→((es.getD i V.undef).cell j).names K.live)→bM K.live es:=by
  intro k es hfit h;refine eP fun i hi=>ep (k:=k) ?_ (h i hi);rw[Ke,Ki hi];exact hfit _ (KC _)
 induction r with
 |ptr n k i o h=>exact h
 |ept k es i o b off f hb hfit hcell hst hv ih=>exact row k es hfit ih
 |sl k own es b off cap f hb hfit hcell hst hv hcap hnil hfull htok ih=>exact⟨fun n e=>(htok n e).1,row k es hfit ih⟩
 |slnil k=>exact⟨(fun n e=>by cases e),trivial⟩
 |slz k a=>exact⟨(fun n e=>by cases e),trivial⟩
 |rs n k off len cap h hcap hm=>exact h
 |map n h=>exact h
 |chan n h=>exact h
 |yld n h=>exact h
 |fn f first cap cfirst ccap h1 h2 _ _ v1 v2=>exact⟨eP v1,eP v2⟩
 |iface t v cv _ ih=>exact ih
 |agg cs ccs hl _ ih=>exact eP (vs:=cs) ih
 |tup cs ccs hl _ ih=>exact eP (vs:=cs) ih
 |_=>trivial
mutual
theorem fH{L L':Nat→Prop}(h:∀n,L n→L' n):∀{v:V},v.names L→v.names L'
 | .ptr n _ _ _,q=>h n q
 | .rs n _ _ _,q=>h n q
 | .map n,q=>h n q
 | .chan n,q=>h n q
 | .yld n,q=>h n q
 | .ept _ es _ _,q=>gL h (vs:=es) q
 | .sl _ own es,q=>⟨fun n e=>h n (q.1 n e),gL h (vs:=es) q.2⟩
 | .fn _ a b,q=>⟨gL h (vs:=a) q.1,gL h (vs:=b) q.2⟩
 | .iface _ v,q=>fH h (v:=v) q
 | .agg cs,q=>gL h (vs:=cs) q
 | .tup vs,q=>gL h (vs:=vs) q
 | .bool _,_=>trivial
 | .int _ _,_=>trivial
 | .str _,_=>trivial
 | .nilPtr,_=>trivial
 | .aAG,_=>trivial
 | .aAL,_=>trivial
 | .aAV,_=>trivial
 | .nilIface,_=>trivial
 | .top,_=>trivial
theorem gL{L L':Nat→Prop}(h:∀n,L n→L' n):∀{vs:List V},bM L vs→bM L' vs
 | [],_=>trivial
 |v::vs,q=>⟨fH h (v:=v) q.1,gL h (vs:=vs) q.2⟩
end
theorem Rel.back{K K':Ker}{h:Hp}(r:Rel K h)(r':Rel K' h){L:Nat→Prop}(hle:K.leV (K'.only L))(hL:∀n,K.live n→L n):Rel (K'.only L) h:=by
 refine⟨fun n b e=>hL n (r.lt n b e),r'.base,fun n b e=>?_,r'.inj,r'.size.re rfl rfl⟩;have hb:=r.blk n b e;have hb':=r'.blk n b e;cases hb' with
 |arr k es c T hh hsz hi hfit hvs=>
  refine .arr k es c T hh hsz hi hfit fun i hi j hj=>(hvs i hi j hj).only L ?_;cases hb with
  |arr _ _ c0 T0 hh0 aPN hi0 aPp aPM=>
   have:=(aPM i hi j hj).names;generalize (es.getD i V.undef).cell j=x at this;exact fH hL this
 |tip c T hh hi ht=>exact .tip c T hh hi ht
 |obj o U hh ho _ hU=>cases hb with
  |obj _ _ _ _ hu _=>exact .obj o U hh ho (hU _ _ hle hu) hU
 |mp es c ces hh hl hv=>cases hb with
  |mp _ _ bCO hh0 hl0 hv0=>exact .mp es c ces hh hl fun i hi=>⟨(hv i hi).1.only L (fH hL (hv0 i hi).1.names),(hv i hi).2.1.only L (fH hL (hv0 i hi).2.1.names),(hv i hi).2.2⟩
 |mit m since seen last hh hm=>cases hb with
  |mit _ _ _ _ hh0 hm0=>exact .mit m since seen last hh (hL m hm0)
def cK(P:Program)(t:TypeId):Option Sh:=
 match P.info? t with
 |none=>none
 |some i=>match P.underlying t with
  |some (.struct _)=>some (.agg i.size)
  |some (.array _ _)=>some (.agg i.size)
  |some _=>if i.size=1 then some .leaf else none
  |none=>none
inductive aK where
 |slot (t:Nat)
 |const (v:V)
 deriving Inhabited
def aK.ev(sl:List V):aK→V
 | .slot t=>sl.getD t V.undef
 | .const v=>v
def br(P:Program)(t:TypeId):Value→Option V
 | .bool b=>some (.bool b)
 | .int k n=>some (.int k n)
 | .string s=>some (.str s)
 | .pointer none=>some .nilPtr
 | .slice none 0 0=>match P.underlying t with
  |some (.slice e)=>(cK P e).map fun k=> .sl k .nil []
  |_=>some (.sl .leaf .nil [])
 | .map none=>some .aAG
 | .chan none=>some .aAL
 | .nilFunc=>some .aAV
 | .nilIface=>some .nilIface
 |_=>none
def bj(P:Program):Nat→TypeId→List TypeId
 |0,t=>[t]
 |d+1,t=>match P.underlying t with
  |some (.struct fs)=>fs.toList.flatMap fun f=>bj P d f.type
  |some (.array n e)=>(List.replicate n (bj P d e)).flatten
  |_=>[t]
def kU(P:Program):List TypeId→List Value→Option (List V)
 |_,[]=>some []
 |ts,v::vs=>match br P (ts.headD 0) v,kU P ts.tail vs with
  |some x,some xs=>some (x::xs)
  |_,_=>none
def bc(P:Program)(t:TypeId):Value→Option V
 | .agg cs=>(kU P (bj P 12 t) cs.toList).map .agg
 | .tuple cs=>if cs.isEmpty then some (.tup []) else none
 |v=>br P t v
def Hw(P:Program)(g:Nat):Option V:=
 ((P.globals[g]?).bind fun gl=>cK P gl.type).bind fun k=>(GT.find? fun p=>p.1==g).bind fun p=>(kU P [] p.2).bind fun vs=>
   match k,vs with
   | .leaf,[v]=>some (.ept .leaf [v] 0 0)
   | .agg n,vs=>if vs.length=n then some (.ept (.agg n) [.agg vs] 0 0) else none
   |_,_=>none
def aO(P:Program)(t:TypeId):Operand→Option aK
 | .tmp n=>some (.slot n)
 | .const v=>(bc P t v).map .const
 | .func f=>some (.const (.fn (.func f) [] []))
 | .global g=>(Hw P g).map .const
theorem tT{P:Program}{t:TypeId}{cv:Value}{v:V}(h:br P t cv=some v)(K:Ker):VR K v cv∧v.aAE=true:=by
 unfold br at h;split at h;case h_5=>
  split at h
  ·rename_i e _;cases hs:cK P e with
   |none=>simp[hs] at h
   |some k=>simp[hs] at h;subst h;exact⟨.slnil k,rfl⟩
  injection h with h;subst h;exact⟨.slnil _,rfl⟩
 all_goals first
  |(injection h with h;subst h;first|exact⟨.bool _,rfl⟩|exact⟨.int _ _,rfl⟩|exact⟨.str _,rfl⟩|exact⟨.nilPtr,rfl⟩|exact⟨.aAG,rfl⟩|exact⟨.aAL,rfl⟩|exact⟨.aAV,rfl⟩|exact⟨.nilIface,rfl⟩)
  |simp at h
theorem lV{P:Program}(K:Ker):∀(cs:List Value) (ts:List TypeId) (vs:List V),kU P ts cs=some vs→
 vs.length=cs.length∧(∀i,i<vs.length→VR K (vs.getD i V.undef) (cs.getD i Kh))∧vs.all V.aAE=true
 | [],ts,vs,h=>by
  simp[kU] at h;subst h;exact⟨rfl,fun i hi=>absurd hi Zm,rfl⟩
 |c::cs,ts,vs,h=>by
  unfold kU at h;split at h
  ·rename_i x xs h1 h2;injection h with h;subst h;obtain⟨a,b,d⟩:=lV K cs _ xs h2;obtain⟨e,f⟩:=tT h1 K;refine⟨by simp[a],?_,by simp[f,d]⟩;intro i hi;cases i with
   |zero=>simpa using e
   |succ i=>simpa using b i (by simpa using hi)
  simp at h
theorem dU{P:Program}{t:TypeId}{cv:Value}{v:V}(h:bc P t cv=some v)(K:Ker):VR K v cv:=by
 unfold bc at h;split at h
 ·rename_i cs;cases hl:kU P (bj P 12 t) cs.toList with
  |none=>simp[hl] at h
  |some vs=>
   simp[hl] at h;subst h;obtain⟨a,b,_⟩:=lV K cs.toList _ vs hl;refine .agg vs cs (by simpa using a) fun i hi=>?_;have:=b i hi;simpa using this
 ·split at h
  ·rename_i cs hc;injection h with h;subst h;have:cs=#[]:=by simpa using hc
   subst this;exact .undef K
  simp at h
 exact(tT h K).1
def fE(K:Ker)(sl:List V)(a:Act):Prop:=sl.length=a.tmps.size∧∀t,VR K (sl.getD t V.undef) (a.tmps.getD t Kh)
def SlV(K:Ker)(sl:List V)(a:Act):Prop:=iV K∧∀t,VR K (sl.getD t V.undef) (a.tmps.getD t Kh)
theorem Ag{P:Program}{g:Nat}{v:V}(h:Hw P g=some v){K:Ker}(f:iV K):VR K v (.pointer (some ⟨g,0,none⟩)):=by
 unfold Hw at h;obtain⟨k,hk0,h1⟩:=Ka.1 h;obtain⟨⟨g',cs⟩,hp,h2⟩:=Ka.1 h1;obtain⟨vs,hvs,h3⟩:=Ka.1 h2;clear h h1 h2;have hg:g'=g:=by simpa using List.find?_some hp
 subst hg;obtain⟨f1,_,f2⟩:=f.gt _ _ (List.mem_of_find?_eq_some hp);obtain⟨e1,e2,e30⟩:=lV K cs _ vs hvs;have e3:∀x∈vs,x.aAE=true:=Ky.1 e30;have key:∀(k:Sh) (x:V),x.fits k=true→k.size=vs.length→(∀j,x.cell j=vs.getD j V.undef)→VR K (.ept k [x] 0 0) (.pointer (some ⟨g',0,none⟩)):=by
  intro k x hx hk hc
  have:=VR.ept (K:=K) k [x] 0 0 g' 0 (fun j=>cs.getD j Kh) (f.lt _ f1) (by simpa using hx)
   (fun j hj=>by simp only[Ql,List.length_nil] at hj;rw[Qj];exact f2 j or) (fun j _=> .inl f1)
   (fun i hi j hj=>by
     obtain rfl:i=0:=by simpa using hi
     simp only[List.getD_cons_zero,Qw,Qj,hc];exact e2 j or)
  simpa using this
 split at h3
 ·rename_i v;injection h3 with h;subst h;refine key .leaf v (e3 v Zm) rfl fun j=>?_;have:v.cells=[v]:=by
   have:=e3 v Zm;cases v<;>first|rfl|(simp[V.aAE] at this)
  simp only[V.cell,this]
 ·split at h3
  ·rename_i n hn;injection h3 with h;subst h;exact key (.agg n) (.agg vs) (by simp only[V.fits,Kk,decide_eq_true_eq,Ky];exact⟨hn,e3⟩) hn.symm fun j=>rfl
  cases h3
 cases h3
theorem fE.mono{K K':Ker}(h:K.le K'){sl:List V}{a:Act}(r:fE K sl a):fE K' sl a:=⟨r.1,fun t=>(r.2 t).mono h⟩
theorem aG{P:Program}{t:TypeId}{x:Operand}{l:aK}(h:aO P t x=some l){K:Ker}{sl:List V}{a:Act}(hs:SlV K sl a):VR K (l.ev sl) (a.eval x):=by
 cases x with
 |tmp n=>simp[aO] at h;subst h;exact hs.2 n
 |const cv=>
  simp only[aO] at h;cases hv:bc P t cv with
  |none=>simp[hv] at h
  |some v=>simp[hv] at h;subst h;exact dU hv K
 |func f=>simp[aO] at h;subst h;exact .fn _ [] [] #[] #[] rfl rfl (fun i hi=>absurd hi Zm) (fun i hi=>absurd hi Zm)
 |global g=>
  simp only[aO] at h;obtain⟨v,hv,rfl⟩:=Kb.1 h;exact Ag hv hs.1
def cA(k t:Sh)(o:Nat):Prop:=
 match k,t with
 | .leaf, .leaf=>o=0
 | .leaf, .agg _=>False
 | .agg n, .leaf=>o<n
 | .agg n, .agg m=>o+m≤n
def bB(t:Sh)(o:Nat)(e:V):V:=
 match t with
 | .leaf=>e.cell o
 | .agg m=>if o=0∧e.cells.length=m then e else .agg ((e.cells.drop o).take m)
theorem gQ{k t:Sh}{o:Nat}{e:V}(hp:cA k t o)(hf:e.fits k=true):(bB t o e).fits t=true∧o+t.size≤k.size∧∀j,j<t.size→(bB t o e).cell j=e.cell (o+j):=by
 cases k with
 |leaf=>
  cases t with
  |leaf=>
   simp only[cA] at hp;subst hp;simp only[V.fits] at hf;have e1:e.cells=[e]:=by cases e<;>first|rfl|(simp[V.aAE] at hf)
   have e2:bB .leaf 0 e=e:=by simp[bB,V.cell,e1]
   refine⟨by rw[e2];exact hf,by simp[Sh.size],?_⟩;intro j hj;have:j=0:=by simp[Sh.size] at hj;exact hj
   subst this;rw[e2]
  |agg m=>exact hp.elim
 |agg n=>
  cases e with
  |agg cs=>
   simp only[V.fits,Kk,decide_eq_true_eq,Ky] at hf;obtain⟨h1,h2⟩:=hf;cases t with
   |leaf=>
    simp only[cA] at hp;have hl:(bB .leaf o (.agg cs)).aAE=true:=by
     show(cs.getD o V.undef).aAE=true;rw[Ke,Ki or];exact h2 _ (KC _)
    refine⟨hl,by simp[Sh.size];omega,?_⟩;intro j hj;have:j=0:=by simp[Sh.size] at hj;exact hj
    subst this;have e1:(bB .leaf o (.agg cs)).cells=[bB .leaf o (.agg cs)]:=by
     generalize bB .leaf o (.agg cs)=x at hl;cases x<;>first|rfl|(simp[V.aAE] at hl)
    show(bB .leaf o (.agg cs)).cells.getD 0 V.undef=_;rw[e1];rfl
   |agg m=>
    simp only[cA] at hp;unfold bB;by_cases hc:o=0∧(V.agg cs).cells.length=m
    ·simp only[if_pos hc];obtain⟨rfl,hc⟩:=hc;refine⟨?_,by simp[Sh.size];omega,fun j _=>Zm⟩;simp only[V.fits,Kk,decide_eq_true_eq,Ky];exact⟨hc,h2⟩
    simp only[if_neg hc];refine⟨?_,by simp[Sh.size];omega,?_⟩
    ·simp only[V.fits,V.cells,Kk,decide_eq_true_eq,Ky,List.length_take,List.length_drop];exact⟨or,fun x hx=>h2 x (KU (KV hx))⟩
    intro j hj;simp only[Sh.size] at hj;show((cs.drop o).take m).getD j V.undef=cs.getD (o+j) V.undef;simp only[Ke,KN,KO,if_pos hj]
  |_=>simp[V.fits] at hf
inductive LK where
 |bool|int|str
 deriving DecidableEq,Inhabited
inductive pO where
 |plain (k:Sh) (ks:List LK)|ptr|slice|func|iface (cst:Bool)|map|chan
 deriving Inhabited
def iC:LK→V→V→Option Bool
 | .bool, .bool a, .bool b=>some (a==b)
 | .int, .int k a, .int k' b=>if k=k' then some (a==b) else none
 | .str, .str a, .str b=>some (a.toList==b.toList)
 |_,_,_=>none
def iB:List LK→List V→List V→Option Bool
 | [],[],[]=>some true
 | [k],[x],[y]=>iC k x y
 |k::ks,x::xs,y::ys=>match iC k x y,iB ks xs ys with
  |some a,some b=>some (a&&b)
  |_,_=>none
 |_,_,_=>none
def veq:pO→V→V→Option Bool
 | .plain k ks,x,y=>if (x.fits k&&y.fits k)=true then iB ks x.cells y.cells else none
 | .ptr, .nilPtr, .nilPtr=>some true
 | .ptr, .nilPtr, .ptr .. =>some false
 | .ptr, .ptr .., .nilPtr=>some false
 | .ptr, .nilPtr, .ept .. =>some false
 | .ptr, .ept .., .nilPtr=>some false
 | .slice, .sl _ o _, .sl _ .nil _=>some (o== .nil)
 | .slice, .rs .., .sl _ .nil _=>some false
 | .func, .aAV, .aAV=>some true
 | .func, .aAV, .fn .. =>some false
 | .func, .fn .., .aAV=>some false
 | .iface true, .nilIface, .nilIface=>some true
 | .iface _, .nilIface, .iface .. =>some false
 | .iface _, .iface .., .nilIface=>some false
 | .map, .aAG, .aAG=>some true
 | .map, .aAG, .map _=>some false
 | .map, .map _, .aAG=>some false
 | .chan, .aAL, .aAL=>some true
 | .chan, .aAL, .chan _=>some false
 | .chan, .chan _, .aAL=>some false
 |_,_,_=>none
def bT(e:pO)(k:V):List ME→Option (Option Nat)
 | []=>some none
 |x::r=>match veq e k x.k with
  |some true=>some (some 0)
  |some false=>(bT e k r).map (·.map (·+1))
  |none=>none
def jW(ok:Bool)(z:V)(es:List ME):Option Nat→V
 |some j=>if ok=true then .tup [(es.getD j default).v, .bool true] else (es.getD j default).v
 |none=>if ok=true then .tup [z, .bool false] else z
def Da(op:BinOp)(k:IntKind)(a b:Int)(R:V→Prop):Prop:=
 match op with
 | .add=>R (.int k (k.wrap (a+b)))
 | .sub=>R (.int k (k.wrap (a-b)))
 | .mul=>R (.int k (k.wrap (a*b)))
 | .quo=>b≠0∧R (.int k (k.wrap (a.tdiv b)))
 | .rem=>b≠0∧R (.int k (a.tmod b))
 | .shr=>0≤b∧R (.int k (a / 2 ^ min b.toNat k.bits))
 | .eql=>R (.bool (a==b))
 | .neq=>R (.bool (a != b))
 | .lss=>R (.bool (decide (a<b)))
 | .leq=>R (.bool (decide (a≤b)))
 | .gtr=>R (.bool (decide (b<a)))
 | .geq=>R (.bool (decide (b≤a)))
 |_=>False
def B2(op:BinOp)(s t:ByteArray)(R:V→Prop):Prop:=
 match op with
 | .add=>((s.size+t.size:Nat):Int)≤9223372036854775807∧R (.str (s++t))
 | .eql=>R (.bool (s.toList==t.toList))
 | .neq=>R (.bool (!(s.toList==t.toList)))
 | .lss=>R (.bool (Op.bytesLess s.toList t.toList))
 | .leq=>R (.bool (Op.bytesLess s.toList t.toList||s.toList==t.toList))
 | .gtr=>R (.bool (!(Op.bytesLess s.toList t.toList||s.toList==t.toList)))
 | .geq=>R (.bool (!Op.bytesLess s.toList t.toList))
 |_=>False
def V.pick(t:Bool):V→V→V
 | .bool x, .bool y=> .bool (if t then x else y)
 |a,b=>if t then a else b
def ie(cells:List V):List (Nat×List V)→List V
 | []=>cells
 |(off,xs)::r=>ie (cells.take off++xs++cells.drop (off+xs.length)) r
def cW(sl:List V)(d:Int):Option aK→Option Int
 |none=>some d
 |some l=>match l.ev sl with
  | .int _ n=>some n
  |_=>none
def iD(own:Own)(hi mx:Option Int):Own:=
 match own with
 | .nil=> .nil
 |o=>match hi,mx with
  |none,none=>o
  |some h,some m=>if h=m then .full else .free
  |_,_=> .free
def aDQ:Own→List V→Option Int→Option Int→Own
 | .free,[],_,_=> .free
 |own,_,hi,mx=>iD own hi mx
theorem xE(es:List V)(hi mx:Option Int):aDQ .nil es hi mx= .nil:=by cases es<;>rfl
theorem tB(es:List V)(hi mx:Option Int):aDQ .full es hi mx=iD .full hi mx:=by cases es<;>rfl
theorem xD(n:Nat)(es:List V)(hi mx:Option Int):aDQ (.tok n) es hi mx=iD (.tok n) hi mx:=by cases es<;>rfl
theorem lA(hi mx:Option Int):aDQ .free [] hi mx= .free:=rfl
theorem nQ(e:V)(es:List V)(hi mx:Option Int):aDQ .free (e::es) hi mx=iD .free hi mx:=rfl
theorem VR.aDQ{K:Ker}{k:Sh}{own:Own}{es xs:List V}{hi mx:Option Int}{cv:Value}(ho:own≠ .nil)(h:VR K (.sl k (iD own hi mx) xs) cv):VR K (.sl k (aDQ own es hi mx) xs) cv:=by
 cases own with
 |nil=>exact absurd rfl ho
 |full=>rw[tB];exact h
 |tok n=>rw[xD];exact h
 |free=>
  cases es with
  |nil=>exact h.free (by cases hi<;>cases mx<;>simp[iD];split<;>simp)
  |cons=>exact h
def eC(sl:List V):Option aK→Option Int
 |none=>none
 |some l=>match l.ev sl with
  | .int _ n=>some n
  |_=>none
def am(mx:Bool)(a b:Int):Int:=if mx=true then (if b>a then b else a) else (if b<a then b else a)
inductive aW where
 |move (x:aK)
 |pick (c a b:aK)
 |load (t:Sh) (x:aK)
 |nilCheck (x:aK)
 |bin (op:BinOp) (x y:aK)
 |eq (ng:Bool) (ty:pO) (x y:aK)
 |not (x:aK)
 |neg (x:aK)
 |conv (k:IntKind) (x:aK)
 |mkif (t:Nat) (x:aK)
 |mkfn (f:Fn) (first cap:List aK)
 |fldA (off:Nat) (x:aK)
 |fld (t:Sh) (off:Nat) (x:aK)
 |idxA (k:Sh) (x i:aK)
 |idxP (len:Nat) (k:Sh) (x i:aK)
 |len (x:aK)
 |slen (x:aK)
 |ext (x:aK) (i:Nat)
 |build (z:List V) (parts:List (Nat×Sh×aK))
 |slc (k:Sh) (x:aK) (lo hi mx:Option aK)
 |slcs (x:aK) (lo hi:Option aK)
 |never
 |capv (x:aK)
 |mnx (mx:Bool) (x y:aK)
 |asrt (t:Nat) (z:V) (x:aK)
 |asrq (t:Nat) (x:aK)
 |mget (kS:Sh) (ks:List LK) (z:V) (ok:Bool) (x i:aK)
 |mlen (x:aK)
 |sidx (n:Option Nat) (x i:aK)
 |pslc (n:Nat) (k:Sh) (x:aK) (hi:Option aK)
 deriving Inhabited
def qL(k:Sh)(n:Nat)(e:V):List V:=(Kx n).map fun j=>bB k (j*k.size) e
def aW.sem(sl:List V)(h:Hp)(R:V→Prop):aW→Prop
 | .move x=>R (x.ev sl)
 | .pick c a b=>match c.ev sl with
  | .bool t=>R (V.pick t (a.ev sl) (b.ev sl))
  |_=>False
 | .load t x=>match x.ev sl with
  | .ptr n k i o=>match h n with
   |some (.arr k' es)=>k'=k∧i<es.length∧cA k t o∧R (bB t o (es.getD i V.undef))
   |_=>False
  | .ept k es i o=>i<es.length∧cA k t o∧R (bB t o (es.getD i V.undef))
  |_=>False
 | .nilCheck x=>match x.ev sl with
  | .ptr n k i o=>R (.ptr n k i o)
  | .ept k es i o=>R (.ept k es i o)
  |_=>False
 | .bin op x y=>match x.ev sl,y.ev sl with
  | .int k a, .int k' b=>k=k'∧Da op k a b R
  | .str s, .str t=>B2 op s t R
  |_,_=>False
 | .eq ng ty x y=>match veq ty (x.ev sl) (y.ev sl) with
  |some r=>R (.bool (if ng then !r else r))
  |none=>False
 | .not x=>match x.ev sl with
  | .bool b=>R (.bool (!b))
  |_=>False
 | .neg x=>match x.ev sl with
  | .int k n=>R (.int k (k.wrap (0-n)))
  |_=>False
 | .conv k x=>match x.ev sl with
  | .int _ n=>R (.int k (k.wrap n))
  |_=>False
 | .mkif t x=>R (.iface t (x.ev sl))
 | .mkfn f first cap=>R (.fn f (first.map (aK.ev sl)) (cap.map (aK.ev sl)))
 | .fldA off x=>match x.ev sl with
  | .ptr n k i o=>R (.ptr n k i (o+off))
  | .ept k es i o=>R (.ept k es i (o+off))
  |_=>False
 | .fld t off x=>match x.ev sl with
  | .agg cs=>cA (.agg cs.length) t off∧cs.all V.aAE=true∧R (bB t off (.agg cs))
  |_=>False
 | .idxA k x i=>match x.ev sl,i.ev sl with
  | .sl k' _ es, .int _ j=>k'=k∧0≤j∧j<es.length∧R (.ept k es j.toNat 0)
  | .rs n k' off ln, .int _ j=>k'=k∧0≤j∧j<ln∧R (.ptr n k (off+j.toNat) 0)
  |_,_=>False
 | .idxP ln k x i=>match x.ev sl,i.ev sl with
  | .ptr n k' i' o, .int _ j=>0≤j∧j<ln∧R (.ptr n k' i' (o+j.toNat*k.size))
  | .ept k' es i' o, .int _ j=>0≤j∧j<ln∧R (.ept k' es i' (o+j.toNat*k.size))
  |_,_=>False
 | .len x=>match x.ev sl with
  | .sl _ _ es=>R (.int .i64 es.length)
  | .rs _ _ _ ln=>R (.int .i64 ln)
  |_=>False
 | .slen x=>match x.ev sl with
  | .str s=>R (.int .i64 s.size)
  |_=>False
 | .ext x i=>match x.ev sl with
  | .tup vs=>i<vs.length∧R (vs.getD i V.undef)
  |_=>False
 | .slc k x lo hi mx=>match x.ev sl with
  | .sl k' own es=>match cW sl 0 lo,cW sl es.length hi,cW sl es.length mx with
   |some l,some h',some m=>k'=k∧0≤l∧l≤h'∧h'≤m∧m≤es.length∧(hi.isNone=true→mx.isNone=true)∧R (.sl k (aDQ own es (eC sl hi) (eC sl mx)) ((es.take h'.toNat).drop l.toNat))
   |_,_,_=>False
  | .rs n k' off ln=>match cW sl 0 lo,cW sl ln hi,mx with
   |some l,some h',none=>k'=k∧0≤l∧l≤h'∧h'≤ln∧R (if l.toNat=ln∧l.toNat≠0 then .sl k .free [] else .rs n k (off+l.toNat) (h'.toNat-l.toNat))
   |some l,some h',some _=>cW sl ln mx=some 0∧k'=k∧l=0∧h'=0∧hi.isSome=true∧R (.sl k .full [])
   |_,_,_=>False
  |_=>False
 | .slcs x lo hi=>match x.ev sl with
  | .str s=>match cW sl 0 lo,cW sl s.size hi with
   |some l,some h'=>0≤l∧l≤h'∧h'≤s.size∧R (.str (s.extract l.toNat h'.toNat))
   |_,_=>False
  |_=>False
 | .build z parts=>(∀p∈parts,(p.2.2.ev sl).fits p.2.1=true∧p.1+p.2.1.size≤z.length)∧R (.agg (ie z (parts.map fun p=>(p.1,(p.2.2.ev sl).cells))))
 | .never=>False
 | .capv x=>match x.ev sl with
  | .sl _ .nil _=>R (.int .i64 0)
  | .sl _ .full es=>R (.int .i64 es.length)
  |_=>False
 | .mnx mx x y=>match x.ev sl,y.ev sl with
  | .int k a, .int k' b=>k=k'∧R (.int k (am mx a b))
  |_,_=>False
 | .asrt t z x=>match x.ev sl with
  | .iface t' v=>R (.tup [if t'=t then v else z, .bool (decide (t'=t))])
  | .nilIface=>R (.tup [z, .bool false])
  |_=>False
 | .asrq t x=>match x.ev sl with
  | .iface t' v=>t'=t∧R v
  |_=>False
 | .mget kS ks z ok x i=>(i.ev sl).fits kS=true∧match x.ev sl with
  | .aAG=>R (jW ok z [] none)
  | .map n=>match h n with
   |some (.mp es _)=>match bT (.plain kS ks) (i.ev sl) es with
    |some r=>R (jW ok z es r)
    |none=>False
   |_=>False
  |_=>False
 | .mlen x=>match x.ev sl with
  | .aAG=>R (.int .i64 0)
  | .map n=>match h n with
   |some (.mp es _)=>R (.int .i64 es.length)
   |_=>False
  |_=>False
 | .pslc n k x hi=>match x.ev sl with
  | .ept (.agg m) [e] 0 0=>match cW sl n hi with
   |some h'=>m=n*k.size∧0≤h'∧h'≤n∧R (.sl k .free ((qL k n e).take h'.toNat))
   |none=>False
  |_=>False
 | .sidx n x i=>match n,x.ev sl,i.ev sl with
  |some n, .agg cs, .int _ j=>0≤j∧(j<n∧j<cs.length)∧R (cs.getD j.toNat V.undef)
  |none, .str s, .int _ j=>0≤j∧j<s.size∧R (.int .u8 (s.data.toList.getD j.toNat 0).toNat)
  |_,_,_=>False
theorem aW.aAo{sl:List V}{h h':Hp}{R R':V→Prop}(hh:∀n b,h n=some b→b.mem=true→h' n=some b)(hR:∀v,R v→R' v){l:aW}(hs:l.sem sl h R):l.sem sl h' R':=by
 cases l<;>simp only[aW.sem] at hs⊢;case bin op x y=>
  revert hs;split
  ·rintro⟨a,b⟩;refine⟨a,?_⟩;cases op<;>simp only[Da] at b⊢<;>first|exact hR _ b|exact⟨b.1,hR _ b.2⟩|exact b
  ·intro b;cases op<;>simp only[B2] at b⊢<;>first|exact hR _ b|exact⟨b.1,hR _ b.2⟩|exact b
  exact id
 case load t x=>
  revert hs;split
  ·split
   ·rename_i n k i o _ k' es he;rintro⟨a,b,c,d⟩;rw[hh _ _ he rfl];exact⟨a,b,c,hR _ d⟩
   exact False.elim
  ·rintro⟨b,c,d⟩;exact⟨b,c,hR _ d⟩
  exact id
 case mget kS ks z ok x i=>
  refine⟨hs.1,?_⟩;have hs:=hs.2;revert hs;split
  ·exact hR _
  ·split
   ·rename_i he;rw[hh _ _ he rfl];dsimp only;split
    ·exact hR _
    exact id
   exact False.elim
  exact id
 case mlen x=>
  revert hs;split
  ·exact hR _
  ·split
   ·rename_i he;rw[hh _ _ he rfl];exact hR _
   exact False.elim
  exact id
 case slc k x lo hi mx=>
  revert hs;split
  ·split
   ·rintro⟨a,b,c,d,e,f,g⟩;exact⟨a,b,c,d,e,f,hR _ g⟩
   exact id
  ·split
   ·rintro⟨a,b,c,d,e⟩;exact⟨a,b,c,d,hR _ e⟩
   ·rintro⟨a,b,c,d,f,e⟩;exact⟨a,b,c,d,f,hR _ e⟩
   exact id
  exact id
 case slcs x lo hi=>
  revert hs;split
  ·split
   ·rintro⟨a,b,c,e⟩;exact⟨a,b,c,hR _ e⟩
   exact id
  exact id
 case pslc n k x hi=>
  revert hs;split
  ·split
   ·rintro⟨a,b,c,e⟩;exact⟨a,b,c,hR _ e⟩
   exact id
  exact id
 all_goals
  first
   |exact hR _ hs
   |exact⟨hs.1,hR _ hs.2⟩
   |(revert hs;split<;>first|exact hR _|exact id|(rintro⟨a,b⟩;exact⟨a,hR _ b⟩)|(rintro⟨a,c,b⟩;exact⟨a,c,hR _ b⟩)|(rintro⟨a,c,d,b⟩;exact⟨a,c,d,hR _ b⟩))
theorem fS{P:Program}{t:TypeId}{k:Sh}(h:cK P t=some k):∃i d,P.info? t=some i∧P.underlying t=some d∧i.size=k.size∧((k= .leaf∧(∀fs,d≠ .struct fs)∧(∀n e,d≠ .array n e))∨(k= .agg i.size∧((∃fs,d= .struct fs)∨∃n e,d= .array n e))):=by
 unfold cK at h;split at h
 ·simp at h
 rename_i i hi;split at h
 ·rename_i fs hu;injection h with h;subst h;exact⟨i,_,hi,hu,rfl, .inr ⟨rfl, .inl ⟨fs,rfl⟩⟩⟩
 ·rename_i n e hu;injection h with h;subst h;exact⟨i,_,hi,hu,rfl, .inr ⟨rfl, .inr ⟨n,e,rfl⟩⟩⟩
 ·rename_i d h1 h2 hu;split at h
  ·rename_i hs;injection h with h;subst h;exact⟨i,d,hi,hu,hs, .inl ⟨rfl,h1,h2⟩⟩
  simp at h
 simp at h
theorem lw{P:Program}{t:TypeId}{k:Sh}(h:cK P t=some k)(w:World):(isAgg t).run P w= .ok (match k with| .leaf=>false| .agg _=>true) w:=by
 obtain⟨i,d,hi,hd,hs,hk⟩:=fS h;simp only[isAgg,Kd,run_underlying hd,Kc];rcases hk with⟨rfl,h1,h2⟩|⟨rfl,⟨fs,rfl⟩|⟨n,e,rfl⟩⟩
 ·cases d<;>first|rfl|exact absurd rfl (h1 _)|exact absurd rfl (h2 _ _)
 ·rfl
 rfl
theorem eN{P:Program}{t:TypeId}{k:Sh}(h:cK P t=some k)(w:World):(sizeOf t).run P w= .ok k.size w:=by
 obtain⟨i,d,hi,hd,hs,hk⟩:=fS h;simp[sizeOf,typeInfo,hi,hs]
def aAa(k:Sh)(f:Nat→Value):Value:=
 match k with
 | .leaf=>f 0
 | .agg n=> .agg ((Kx n).map f).toArray
theorem dO(b o n:Nat):(⟨b,o,none⟩:Addr).add n=⟨b,o+n,none⟩:=by
 unfold Addr.add;split
 ·subst_vars;rfl
 rfl
theorem rI{P:Program}{t:TypeId}{k:Sh}(h:cK P t=some k)(w:World)(b o:Nat)(f:Nat→Value)(hc:∀j,j<k.size→w.cell? ⟨b,o+j,none⟩=some (f j)):
 (loadVar t ⟨b,o,none⟩).run P w= .ok (aAa k f) w:=by
 simp only[loadVar,Kd,lw h,Kc];cases k with
 |leaf=>
  have:=hc 0 (by simp[Sh.size]);simp only[KP] at this;simp[this,aAa]
 |agg n=>
  have hl:=run_loadCells (P:=P) w ⟨b,o,none⟩ n f (fun j hj=>by rw[dO];exact hc j hj);simp only[Kd,eN h,Kc,if_true,Sh.size,hl,Kf,aAa]
theorem VR.aAa{K:Ker}{k:Sh}{v:V}{f:Nat→Value}(hf:v.fits k=true)(hv:∀j,j<k.size→VR K (v.cell j) (f j)):VR K v (aAa k f):=by
 cases k with
 |leaf=>
  have h0:=hv 0 (by simp[Sh.size]);simp only[V.fits] at hf;have e1:v.cells=[v]:=by cases v<;>first|rfl|(simp[V.aAE] at hf)
  have e2:v.cell 0=v:=by simp[V.cell,e1]
  rw[e2] at h0;exact h0
 |agg n=>
  refine VR.aDz hf Zm fun j hj=>?_;have:=hv j hj;simpa [Ke,hj] using this
def xN(P:Program)(o:Oper)(act:Act)(K:Ker)(R:V→Prop):Prop:=∃cv v,(execOp act.eval o).run P K.w= .ok (.value cv) K.w∧VR K v cv∧R v
section
variable{P:Program}{o:Oper}{act:Act}{K:Ker}{sl:List V}{h:Hp}{R:V→Prop}
theorem G1{t:TypeId}{k:Sh}(hk:cK P t=some k){a:Value}(hr:Rel K h){x:V}(hx:VR K x a)(l:aK)(hl:l.ev sl=x)(aAB:(aW.load k l).sem sl h R):
 ∃cv v,(Qd t a).run P K.w= .ok cv K.w∧VR K v cv∧R v:=by
 simp only[aW.sem,hl] at aAB;cases hx with
 |ptr n kk i oo hn=>
  simp only at aAB;split at aAB
  ·rename_i k' es he;obtain⟨rfl,hi,hp,hR⟩:=aAB;have hb:=hr.blk n _ he;cases hb with
   |arr _ _ c T hh hsz himm hfit hv=>
    have aAm:es.getD i V.undef∈es:=by
     rw[Ke,Ki hi];exact KC _
    obtain⟨f1,f2,f3⟩:=gQ hp (hfit _ aAm);have aD6:∀j,j<k.size→i*k'.size+oo+j<c.size:=fun j hj=>by
     have:=cL (k:=k'.size) (i:=i) (j:=oo+j) (n:=es.length) or hi;omega
    have aAe:=rI hk K.w (K.mu n) (i*k'.size+oo) (fun j=>c.getD (i*k'.size+(oo+j)) Kh) (fun j hj=>by
     have:=aD6 j hj;simp[KY,hh,Array.getD,Km,show i*k'.size+(oo+j)<c.size by omega])
    refine⟨_,_,by simp only[Qd,Kv,Kd,Kf,Kc];exact aAe,VR.aAa f1 (fun j hj=>?_),hR⟩;rw[f3 j hj];exact hv i hi (oo+j) or
  exact aAB.elim
 |ept kk es i oo b off f hb hfit hcell hst hv=>
  obtain⟨hi,hp,hR⟩:=aAB;have aAm:es.getD i V.undef∈es:=by
   rw[Ke,Ki hi];exact KC _
  obtain⟨f1,f2,f3⟩:=gQ hp (hfit _ aAm);have aAe:=rI hk K.w b (off+(i*kk.size+oo)) (fun j=>f (i*kk.size+(oo+j))) (fun j hj=>by
   have:=cL (k:=kk.size) (i:=i) (j:=oo+j) (n:=es.length) or hi;have:=hcell (i*kk.size+(oo+j)) this;simpa [Km] using this)
  refine⟨_,_,by simp only[Qd,Kv,Kd,Kf,Kc];exact aAe,VR.aAa f1 (fun j hj=>?_),hR⟩;rw[f3 j hj];exact hv i hi (oo+j) or
 |_=>exact aAB.elim
theorem H5{op:BinOp}{k:IntKind}{a b:Int}{t:TypeId}(hop:op≠ .shl)(hR:Da op k a b R):∃cv v,(binOp op t (.int k a) (.int k b)).run P K.w= .ok cv K.w∧VR K v cv∧R v:=by
 by_cases hs:op= .shr
 ·subst hs;exact⟨_,_,by simp only[binOp];rw[shift_shr_any _ _ _ _ hR.1];rfl, .int _ _,hR.2⟩
 cases op<;>simp only[Da] at hR<;>first
  |exact hR.elim
  |exact absurd rfl hs
  |exact⟨_,_,by simp[binOp,Op.intArith,Op.intCmp], .int _ _,hR⟩
  |exact⟨_,_,by simp[binOp,Op.intArith,Op.intCmp], .bool _,hR⟩
  |exact⟨_,_,by simp[binOp,Op.intDiv,hR.1], .int _ _,hR.2⟩
theorem HS{op:BinOp}{s t:ByteArray}{ty:TypeId}(hR:B2 op s t R):∃cv v,(binOp op ty (.string s) (.string t)).run P K.w= .ok cv K.w∧VR K v cv∧R v:=by
 have hm:IntKind.i64.max=9223372036854775807:=rfl
 cases op<;>simp only[B2] at hR<;>first
  |exact hR.elim
  |exact⟨_,_,by simp[binOp,Op.stringOp], .bool _,hR⟩
  |(refine⟨_,_,?_, .str _,hR.2⟩
    have:=hR.1;simp only[binOp,Op.stringOp,hm];rw[if_neg or];rfl)
end
def fJ(kd:TypeId→Option (List LK)):List Field→Nat→Option (List LK)
 | [],_=>some []
 |f::fs,off=>if f.name≠ "_" ∧f.offset=off then (kd f.type).bind fun ks=>(fJ kd fs (off+ks.length)).map (ks++ ·) else none
def bD(P:Program):Nat→TypeId→Option (List LK)
 |0,_=>none
 |d+1,t=>match P.underlying t with
  |some .bool=>if cK P t=some .leaf then some [.bool] else none
  |some (.int _)=>if cK P t=some .leaf then some [.int] else none
  |some .string=>if cK P t=some .leaf then some [.str] else none
  |some (.struct fs)=>if P.stoodInHeld t then none else (fJ (bD P d) fs.toList 0).bind fun ks=>if cK P t=some (.agg ks.length) then some ks else none
  |_=>none
theorem sJ(k:LK)(ks:List LK)(x:V)(xs:List V)(y:V)(ys:List V):iB (k::ks) (x::xs) (y::ys)=match iC k x y,iB ks xs ys with
 |some a,some b=>some (a&&b)
 |_,_=>none:=by
 cases ks<;>cases xs<;>cases ys<;>first|rfl|(simp[iB];done)|(simp only[iB];cases iC k x y<;>simp)
theorem oU:∀(ks:List LK) (xs ys:List V) (r:Bool),iB ks xs ys=some r→xs.length=ks.length∧ys.length=ks.length
 | [],[],[],_,_=>⟨rfl,rfl⟩
 | [],[],_::_,_,h=>by simp[iB] at h
 | [],_::_,_,_,h=>by simp[iB] at h
 |k::ks,[],_,_,h=>by simp[iB] at h
 |k::ks,_::_,[],_,h=>by simp[iB] at h
 |k::ks,x::xs,y::ys,r,h=>by
  rw[sJ] at h;split at h
  ·rename_i a b h1 h2;have:=oU ks xs ys b h2;simp[this.1,this.2]
  simp at h
theorem zG:∀(ks ks':List LK) (xs ys:List V) (r:Bool),iB (ks++ks') xs ys=some r→
 ∃r1 r2,iB ks (xs.take ks.length) (ys.take ks.length)=some r1∧iB ks' (xs.drop ks.length) (ys.drop ks.length)=some r2∧r=(r1&&r2)
 | [],ks',xs,ys,r,h=>⟨true,r,by simp[iB],by simpa using h,Zm⟩
 |k::ks,ks',xs,ys,r,h=>by
  have hl:=oU _ _ _ _ h;cases xs with
  |nil=>simp at hl
  |cons x xs=>
   cases ys with
   |nil=>simp at hl
   |cons y ys=>
    rw[List.cons_append,sJ] at h;split at h
    ·rename_i a b h1 h2;injection h with h;obtain⟨r1,r2,e1,e2,e3⟩:=zG ks ks' xs ys b h2;refine⟨a&&r1,r2,?_,by simpa using e2,by rw[←h,e3,Bool.and_assoc]⟩;simp only[Ql,List.take_succ_cons];rw[sJ,h1,e1]
    simp at h
theorem rH{P:Program}{t:TypeId}{k:Sh}(h:cK P t=some k)(w:World)(cs:Array Value)(f:Nat→Value)(off:Nat)(hl:off+k.size≤cs.size)(hf:∀j,j<cs.size→cs.getD j Kh=f j):
 (part t cs off).run P w= .ok (aAa k fun j=>f (off+j)) w:=by
 simp only[part,Kd,lw h,Kc];cases k with
 |leaf=>
  simp only[Sh.size] at hl;have h0:=hf off or;have:cs[off]?=some (f off):=by
   rw[Ks or];rw[Kg,Ks or] at h0;simpa using h0
  simp[this,aAa]
 |agg n=>
  simp only[Sh.size] at hl;have:cs.extract off (off+n)=((Kx n).map fun j=>f (off+j)).toArray:=by
   apply QA
   ·simp;omega
   intro i h1 h2;have hi:i<n:=by simpa using h2
   have h0:=hf (off+i) or;rw[Kg,Ks or] at h0;simpa using h0
  simp only[if_true,Kd,eN h,Kc,Sh.size,Kf,aAa,this]
theorem wq{P:Program}{K:Ker}(w:World):∀(d:Nat) (t:TypeId) (ks:List LK) (k:Sh),bD P d t=some ks→cK P t=some k→k.size=ks.length∧
 ∀(vs us:List V) (cx cy:Nat→Value) (r:Bool),(∀j,j<ks.length→VR K (vs.getD j V.undef) (cx j))→(∀j,j<ks.length→VR K (us.getD j V.undef) (cy j))→iB ks vs us=some r→
  (Op.equalIn d t (aAa k cx) (aAa k cy)).run P w= .ok r w
 |0,t,ks,k,h,_=>by simp[bD] at h
 |d+1,t,ks,k,h,hk=>by
  have aAj:∀(lk:LK) (dd:TypeDesc),P.underlying t=some dd→cK P t=some .leaf→ks=[lk]→(dd= .bool∧lk= .bool∨(∃kk,dd= .int kk)∧lk= .int∨dd= .string∧lk= .str)→k.size=ks.length∧
   ∀(vs us:List V) (cx cy:Nat→Value) (r:Bool),(∀j,j<ks.length→VR K (vs.getD j V.undef) (cx j))→(∀j,j<ks.length→VR K (us.getD j V.undef) (cy j))→iB ks vs us=some r→
    (Op.equalIn (d+1) t (aAa k cx) (aAa k cy)).run P w= .ok r w:=by
   intro lk dd hu hs hks hdd;rw[hk] at hs;injection hs with hs;subst hs hks;refine⟨rfl,fun vs us cx cy r hx hy hr=>?_⟩;have hl:=oU _ _ _ _ hr;obtain⟨x,rfl⟩:∃x,vs=[x]:=by
    cases vs with
    |nil=>simp at hl
    |cons x t=>cases t with
     |nil=>exact⟨x,rfl⟩
     |cons _ _=>simp at hl
   obtain⟨y,rfl⟩:∃y,us=[y]:=by
    cases us with
    |nil=>simp at hl
    |cons x t=>cases t with
     |nil=>exact⟨x,rfl⟩
     |cons _ _=>simp at hl
   have h0:VR K x (cx 0):=by simpa using hx 0 Zm
   have h1:VR K y (cy 0):=by simpa using hy 0 Zm
   simp only[aAa];simp only[iB] at hr;generalize cx 0=cvx at h0⊢;generalize cy 0=cvy at h1⊢;rcases hdd with⟨rfl,rfl⟩|⟨⟨kk,rfl⟩,rfl⟩|⟨rfl,rfl⟩
   ·cases x<;>cases y<;>simp only[iC] at hr<;>first|(cases h0;cases h1;injection hr with hr;subst hr;exact run_equalIn_bool' w d t _ _ hu)|simp at hr
   ·cases x<;>cases y<;>simp only[iC] at hr<;>first
     |(cases h0;cases h1;simp only[Option.ite_none_right_eq_some,Option.some.injEq] at hr;obtain⟨rfl,rfl⟩:=hr;exact run_equalIn_int w d t _ _ _ _ hu)
     |simp at hr
   cases x<;>cases y<;>simp only[iC] at hr<;>first|(cases h0;cases h1;injection hr with hr;subst hr;exact run_equalIn_string w d t _ _ hu)|simp at hr
  unfold bD at h;split at h
  ·rename_i hu;split at h
   ·rename_i hs;injection h with h;exact aAj .bool _ hu hs h.symm (.inl ⟨rfl,rfl⟩)
   simp at h
  ·rename_i kk hu;split at h
   ·rename_i hs;injection h with h;exact aAj .int _ hu hs h.symm (.inr (.inl ⟨⟨kk,rfl⟩,rfl⟩))
   simp at h
  ·rename_i hu;split at h
   ·rename_i hs;injection h with h;exact aAj .str _ hu hs h.symm (.inr (.inr ⟨rfl,rfl⟩))
   simp at h
  ·rename_i fs hu;split at h
   ·simp at h
   rename_i hst;have aD1:P.stoodInHeld t=false:=by simpa using hst
   cases hks:fJ (bD P d) fs.toList 0 with
   |none=>simp[hks] at h
   |some ks0=>
    simp only[hks,KH] at h;split at h
    ·rename_i hsh;injection h with h;subst h;rw[hk] at hsh;injection hsh with hsh;subst hsh;refine⟨rfl,fun vs us cx cy r hx hy hr=>?_⟩;have hfo:P.fieldsOf t=fs:=by simp[Program.fieldsOf,hu]
     simp only[aAa];rw[run_equalIn_struct w d t _ _ (by rw[hfo];exact hu) aD1,hfo]
     --along the fields
     have key:∀(l:List Field) (off:Nat) (kl:List LK) (vs us:List V) (r:Bool),fJ (bD P d) l off=some kl→off+kl.length≤ks0.length→
      (∀j,j<kl.length→VR K (vs.getD j V.undef) (cx (off+j)))→(∀j,j<kl.length→VR K (us.getD j V.undef) (cy (off+j)))→iB kl vs us=some r→
      (Op.eqFields d ((Kx ks0.length).map cx).toArray ((Kx ks0.length).map cy).toArray l).run P w= .ok r w:=by
      intro l;induction l with
      |nil=>
       intro off kl vs us r hkl _ _ _ hr;simp[fJ] at hkl;subst hkl;cases vs<;>cases us<;>simp[iB] at hr;subst hr;simp[Op.eqFields]
      |cons f l ih=>
       intro off kl vs us r hkl hle hvx hvy hr;unfold fJ at hkl;split at hkl
       ·rename_i hf;obtain⟨hnm,aPa⟩:=hf;cases hkf:bD P d f.type with
        |none=>simp[hkf] at hkl
        |some kf=>
         simp only[hkf,KH] at hkl;cases hkr:fJ (bD P d) l (off+kf.length) with
         |none=>simp[hkr] at hkl
         |some kr=>
          simp only[hkr,Kq] at hkl;injection hkl with hkl;subst hkl;obtain⟨r1,r2,e1,e2,rfl⟩:=zG kf kr vs us r hr;simp only[Qh] at hle hvx hvy;have aYz:∃kk,cK P f.type=some kk:=by
           cases d with
           |zero=>simp[bD] at hkf
           |succ d=>
            unfold bD at hkf;split at hkf
            ·split at hkf
             ·exact⟨_,by assumption⟩
             simp at hkf
            ·split at hkf
             ·exact⟨_,by assumption⟩
             simp at hkf
            ·split at hkf
             ·exact⟨_,by assumption⟩
             simp at hkf
            ·split at hkf
             ·simp at hkf
             obtain⟨a,_,hb⟩:=Ka.1 hkf;split at hb
             ·exact⟨_,by assumption⟩
             simp at hb
            simp at hkf
          obtain⟨kk,hkk⟩:=aYz;obtain⟨hsz,heq⟩:=wq w d f.type kf kk hkf hkk;have gx:∀(c:Nat→Value) (j:Nat),j<((Kx ks0.length).map c).toArray.size→((Kx ks0.length).map c).toArray.getD j Kh=c j:=fun c j hj=>by
           have:j<ks0.length:=by simpa using hj
           simp[Ke,this]
          have p1:=rH hkk w ((Kx ks0.length).map cx).toArray cx f.offset (by simp;omega) (gx cx);have p2:=rH hkk w ((Kx ks0.length).map cy).toArray cy f.offset (by simp;omega) (gx cy);have ht:∀(vs:List V) (j:Nat),j<kf.length→(vs.take kf.length).getD j V.undef=vs.getD j V.undef:=fun vs j hj=>by
           simp[Ke,KN,hj]
          have hd:∀(vs:List V) (j:Nat),(vs.drop kf.length).getD j V.undef=vs.getD (kf.length+j) V.undef:=fun vs j=>by
           simp[Ke,KO]
          have q:=heq (vs.take kf.length) (us.take kf.length) (fun j=>cx (f.offset+j)) (fun j=>cy (f.offset+j)) r1 (fun j hj=>by rw[ht vs j hj,aPa];exact hvx j or) (fun j hj=>by rw[ht us j hj,aPa];exact hvy j or) e1;have q2:=ih (off+kf.length) kr (vs.drop kf.length) (us.drop kf.length) r2 hkr or (fun j hj=>by rw[hd];have:=hvx (kf.length+j) or;rwa [←Km] at this) (fun j hj=>by rw[hd];have:=hvy (kf.length+j) or;rwa [←Km] at this) e2;simp only[Op.eqFields,if_pos hnm,Kd,p1,p2,Kc,q,Qe,q2,Kf];cases r1<;>simp
       simp at hkl
     exact key fs.toList 0 ks0 vs us r hks or (fun j hj=>by simpa using hx j hj) (fun j hj=>by simpa using hy j hj) hr
    simp at h
  simp at h
def rU:Operand→Bool
 | .const _=>true
 |_=>false
def Aq(P:Program)(t:TypeId)(x y:Operand):Option pO:=
 match P.underlying t with
 |some .bool=>(bD P 1 t).bind fun ks=>(cK P t).map fun k=> .plain k ks
 |some (.pointer _)=>some .ptr
 |some (.slice _)=>some .slice
 |some (.func _ _ _)=>some .func
 |some (.interface _)=>some (.iface (rU x||rU y))
 |some (.map _ _)=>some .map
 |some (.chan _ _)=>some .chan
 |some (.struct _)=>if P.eqGuardType P.depth t then none else (bD P 10 t).bind fun ks=>(cK P t).map fun k=> .plain k ks
 |_=>none
def Bp:BinOp→Option Bool
 | .eql=>some false
 | .neq=>some true
 |_=>none
def fi(P:Program)(op:BinOp)(t yt:TypeId)(x y:Operand):Option aW:=
 (aO P t x).bind fun lx=>(aO P t y).bind fun ly=>
   match P.underlying t with
   |some (.int _)=>if op= .shl then none else some (.bin op lx ly)
   |some .string=>some (.bin op lx ly)
   |_=>(Bp op).bind fun ng=>(Aq P t x y).map fun e=> .eq ng e lx ly
def eJ(P:Program):List TypeId→List Operand→Option (List aK)
 |_,[]=>some []
 |ts,x::xs=>match aO P (ts.headD 0) x,eJ P ts.tail xs with
  |some a,some as=>some (a::as)
  |_,_=>none
def nE(P:Program)(fs:Array Field):List (Nat×Operand)→Option (List (Nat×Sh×aK))
 | []=>some []
 |(i,x)::r=>match fs[i]? with
  |some f=>(cK P f.type).bind fun k=>(aO P f.type x).bind fun l=>(nE P fs r).map ((f.offset,k,l):: ·)
  |none=>none
def eX(P:Program):Option Operand→Option (Option aK)
 |none=>some none
 |some x=>(aO P 0 x).map some
def wJ(P:Program)(o:Oper):Option aW:=
 match o.op with
 | .move x=>(aO P o.type x).map .move
 | .assign x=>(aO P o.type x).map .move
 | .pick c a b=>(aO P 0 c).bind fun c=>(aO P o.type a).bind fun a=>(aO P o.type b).map fun b=> .pick c a b
 | .load t x=>(cK P t).bind fun k=>(aO P 0 x).map fun x=> .load k x
 | .nilCheck x=>(aO P 0 x).map .nilCheck
 | .binOp op t x y yt=>fi P op t yt x y
 | .unOp .not _ x=>(aO P 0 x).map .not
 | .unOp .neg _ x=>(aO P 0 x).map .neg
 | .convert s d x=>match P.underlying s,P.underlying d with
  |some (.int _),some (.int k)=>(aO P 0 x).map (.conv k)
  |_,_=>none
 | .makeInterface t x=>match P.underlying t with
  |some (.interface _)=>none
  |some _=>(aO P t x).map (.mkif t)
  |none=>none
 | .makeFunc f first cap=>(eJ P [] first.toList).bind fun a=>(eJ P [] cap.toList).map fun b=> .mkfn f a b
 | .fieldAddr s x f=>match P.underlying s with
  |some (.struct fs)=>match fs[f]? with
   |some fl=>if P.cellsOf fl.type=0 then none else (aO P 0 x).map (.fldA fl.offset)
   |none=>none
  |_=>none
 | .field s x f=>match P.underlying s with
  |some (.struct fs)=>match fs[f]? with
   |some fl=>(cK P fl.type).bind fun k=>(aO P s x).map (.fld k fl.offset)
   |none=>none
  |_=>none
 | .indexAddr t x i=>match P.underlying t with
  |some (.slice e)=>(cK P e).bind fun k=>(aO P t x).bind fun x=>(aO P 0 i).map fun i=> .idxA k x i
  |some (.array n e)=>(cK P e).bind fun k=>(aO P t x).bind fun x=>(aO P 0 i).map fun i=> .idxP n k x i
  |_=>none
 | .extract x i=>(aO P 0 x).map fun x=> .ext x i
 | .slice t x lo hi mx=>match P.underlying t with
  |some (.slice e)=>(cK P e).bind fun k=>(aO P t x).bind fun x=>(eX P lo).bind fun lo=>(eX P hi).bind fun hi=>(eX P mx).map fun mx=> .slc k x lo hi mx
  |some .string=>if mx.isSome then none else (aO P t x).bind fun x=>(eX P lo).bind fun lo=>(eX P hi).map fun hi=> .slcs x lo hi
  |some (.array n e)=>if (mx.isSome||lo.isSome)=true then none else (cK P e).bind fun k=>(aO P t x).bind fun x=>(eX P hi).map fun hi=> .pslc n k x hi
  |_=>none
 | .call {callee:= .builtin .len,args:=args,argTypes:=ts}=>match args.toList,ts.toList with
  | [x],[t]=>match P.underlying t with
   |some (.slice _)=>(aO P t x).map .len
   |some .string=>(aO P t x).map .slen
   |some (.map _ _)=>(aO P t x).map .mlen
   |_=>none
  |_,_=>none
 | .build t parts=>match P.underlying t,(P.info? t).bind (·.zero) with
  |some (.struct fs),some z=>match bc P t z with
   |some (.agg zs)=>if (zs.all V.aAE&&fs.toList.all (fun f=>(cK P f.type).isSome))=true then (nE P fs parts.toList).map (.build zs) else none
   |_=>none
  |_,_=>none
 | .panic _=>some .never
 | .call {callee:= .builtin .cap,args:=args,argTypes:=ts}=>match args.toList,ts.toList with
  | [x],[t]=>match P.underlying t with
   |some (.slice _)=>(aO P t x).map .capv
   |_=>none
  |_,_=>none
 | .call {callee:= .builtin .min,args:=args,argTypes:=ts}=>match args.toList with
  | [x,y]=>(aO P (ts.toList.headD 0) x).bind fun x=>(aO P (ts.toList.headD 0) y).map fun y=> .mnx false x y
  |_=>none
 | .call {callee:= .builtin .max,args:=args,argTypes:=ts}=>match args.toList with
  | [x,y]=>(aO P (ts.toList.headD 0) x).bind fun x=>(aO P (ts.toList.headD 0) y).map fun y=> .mnx true x y
  |_=>none
 | .typeAssert x _ t true=>match P.underlying t,(P.info? t).bind (·.zero) with
  |some (.interface _),_=>none
  |some _,some z=>(bc P t z).bind fun z=>(aO P 0 x).map fun x=> .asrt t z x
  |_,_=>none
 | .typeAssert x _ t false=>match P.underlying t with
  |some (.interface _)=>none
  |some _=>(aO P 0 x).map fun x=> .asrq t x
  |_=>none
 | .lookup t x i ok=>match P.underlying t with
  |some (.map kt et)=>(cK P kt).bind fun kS=>(bD P 10 kt).bind fun ks=>((P.info? et).bind (·.zero)).bind fun z=>(bc P et z).bind fun zv=>(aO P t x).bind fun x=>(aO P kt i).map fun i=> .mget kS ks zv ok x i
  |_=>none
 | .index t x i=>match P.underlying t with
  |some .string=>(aO P t x).bind fun x=>(aO P 0 i).map fun i=> .sidx none x i
  |some (.array n e)=>match cK P e with
   |some .leaf=>(aO P t x).bind fun x=>(aO P 0 i).map fun i=> .sidx (some n) x i
   |_=>none
  |_=>none
 |_=>none
theorem fN{P:Program}{K:Ker}{sl:List V}{a:Act}(hs:SlV K sl a):∀(xs:List Operand) (ts:List TypeId) (ls:List aK),eJ P ts xs=some ls→
 ls.length=xs.length∧∀i,i<ls.length→VR K ((ls.map (aK.ev sl)).getD i V.undef) ((xs.map a.eval).getD i Kh)
 | [],ts,ls,h=>by simp[eJ] at h;subst h;exact⟨rfl,fun i hi=>absurd hi Zm⟩
 |x::xs,ts,ls,h=>by
  unfold eJ at h;split at h
  ·rename_i l r h1 h2;injection h with h;subst h;obtain⟨e1,e2⟩:=fN hs xs _ r h2;refine⟨by simp[e1],fun i hi=>?_⟩;cases i with
   |zero=>simpa using aG h1 hs
   |succ i=>simpa using e2 i (by simpa using hi)
  simp at h
theorem wa{α:Type}{c:Prop} [Decidable c]{x r:α}(h:x=r):(if c then r else x)=r:=by split<;>first|rfl|exact h
theorem fZ{P:Program}(op:BinOp)(t:TypeId)(x y:Operand)(a b:Value)(w:World)(h1:¬(a= .nilIface∧b= .nilIface))(h2:∀xs ys,¬(a= .agg xs∧b= .agg ys)):(eqGuard op t x y a b).run P w= .ok () w:=by
 unfold eqGuard;simp only[Qe,Kf];refine wa ?_;split
 ·exact absurd ⟨rfl,rfl⟩ h1
 ·exact absurd ⟨rfl,rfl⟩ (h2 _ _)
 rfl
theorem wC{P:Program}(op:BinOp)(t:TypeId)(x y:Operand)(w:World)(h:(rU x||rU y)=true):(eqGuard op t x y .nilIface .nilIface).run P w= .ok () w:=by
 unfold eqGuard;simp only[Qe,Kf];refine wa ?_;rw[if_pos];cases x<;>cases y<;>simp_all [rU]
theorem pn{P:Program}{op:BinOp}{ng:Bool}(hn:Bp op=some ng)(t:TypeId)(x y:Operand)(a b:Value)(w:World)(r:Bool)(hg:(eqGuard op t x y a b).run P w= .ok () w)(hi:∀k n k' n',¬(a= .int k n∧b= .int k' n'))(hs:∀s s',¬(a= .string s∧b= .string s'))(hnf:∀k n k' n',¬(a= .float k n∧b= .float k' n'))(hnc:∀k n m k' n' m',¬(a= .complex k n m∧b= .complex k' n' m'))
 (he:(Op.equal t a b).run P w= .ok r w):(do eqGuard op t x y a b;binOp op t a b:Sem Value).run P w= .ok (.bool (if ng then !r else r)) w:=by
 simp only[Kd,hg,Kc];cases op<;>simp[Bp] at hn
 all_goals
  subst hn;unfold binOp
  split<;>first
   |(simp only[Kd,he,Kc,Kf];rfl)
   |(exfalso;rename_i h;exact BinOp.noConfusion h)
   |(exfalso;first|exact hi _ _ _ _ ⟨rfl,rfl⟩|exact hs _ _ ⟨rfl,rfl⟩|exact hnf _ _ _ _ ⟨rfl,rfl⟩|exact hnc _ _ _ _ _ _ ⟨rfl,rfl⟩)
   |(exfalso;simp_all;done)
theorem mM{K:Ker}{k:Sh}{v:V}{cv:Value}(r:VR K v cv)(hk:v.fits k=true):cv=aAa k fun j=>cv.cells.getD j Kh:=by
 cases k with
 |leaf=>
  simp only[V.fits] at hk;cases r<;>first|rfl|(simp[V.aAE] at hk)
 |agg n=>
  cases r with
  |agg cs ccs hl hv=>
   simp only[V.fits,Kk,decide_eq_true_eq] at hk;simp only[aAa];congr 1;apply QA
   ·simp;omega
   intro i h1 h2;simp[Value.cells,h1]
  |_=>simp[V.fits] at hk
theorem wQ{P:Program}:∀(d:Nat) (t:TypeId) (ks:List LK),bD P d t=some ks→bD P (d+1) t=some ks
 |0,t,ks,h=>by simp[bD] at h
 |d+1,t,ks,h=>by
  unfold bD at h⊢;split at h
  ·exact h
  ·exact h
  ·exact h
  ·rename_i fs hu;split at h
   ·simp at h
   rename_i hst;simp only[if_neg hst];obtain⟨k0,h1,h2⟩:=Ka.1 h;have key:∀(l:List Field) (off:Nat) (kl:List LK),fJ (bD P d) l off=some kl→fJ (bD P (d+1)) l off=some kl:=by
    intro l;induction l with
    |nil=>intro off kl h;exact h
    |cons f l ih=>
     intro off kl h;unfold fJ at h⊢;split at h
     ·rename_i hf;rw[if_pos hf];obtain⟨kf,e1,e2⟩:=Ka.1 h;rw[wQ d _ _ e1];cases hkr:fJ (bD P d) l (off+kf.length) with
      |none=>simp[hkr] at e2
      |some kr=>
       simp only[hkr,Kq] at e2;simp only[KH,ih _ _ hkr,Kq];exact e2
     simp at h
   rw[key _ _ _ h1];exact h2
  simp at h
theorem Ab{P:Program}{d d':Nat}{t:TypeId}{ks:List LK}(h:bD P d t=some ks)(hd:d≤d'):bD P d' t=some ks:=by
 induction d' with
 |zero=>have:d=0:=or
        subst this;exact h
 |succ n ih=>
  by_cases e:d=n+1
  ·subst e;exact h
  exact wQ n t ks (ih or)
theorem qG{P:Program}{K:Ker}(w:World){t:TypeId}{d:Nat}{ks:List LK}{k:Sh}(hks:bD P d t=some ks)(hk:cK P t=some k)(hd:d≤10000){v u:V}{a b:Value}(hv:VR K v a)(hu:VR K u b)
 (fv:v.fits k=true) (fu:u.fits k=true) {r:Bool} (h:iB ks v.cells u.cells=some r):(Op.equal t a b).run P w= .ok r w:=by
 obtain⟨hsz,heq⟩:=wq (K:=K) w 10000 t ks k (Ab hks hd) hk;rw[mM hv fv,mM hu fu];exact heq v.cells u.cells _ _ r (fun j hj=>(hv.cells fv).2.2.1 j or) (fun j hj=>(hu.cells fu).2.2.1 j or) h
theorem BK{P:Program}{K:Ker}{t:TypeId}{x y:Operand}{e:pO}(he:Aq P t x y=some e){v u:V}{a b:Value}(hv:VR K v a)(hu:VR K u b){r:Bool}(h:veq e v u=some r){op:BinOp}{ng:Bool}(hn:Bp op=some ng):
 (do eqGuard op t x y a b;binOp op t a b:Sem Value).run P K.w= .ok (.bool (if ng then !r else r)) K.w:=by
 unfold Aq at he;split at he;case h_1 hu1=>
  obtain⟨ks,e1,e2⟩:=Ka.1 he;obtain⟨k,e3,e4⟩:=Kb.1 e2;subst e4;simp only[veq] at h;split at h
  ·rename_i hf;simp only[Kk] at hf;have hq:=qG K.w e1 e3 or hv hu hf.1 hf.2 h;obtain⟨i,d,hi,hd,hs,hkk⟩:=fS e3;have hkl:k= .leaf:=by
    rcases hkk with⟨h1,_⟩|⟨_,⟨fs,rfl⟩|⟨n,ee,rfl⟩⟩
    ·exact h1
    ·rw[hd] at hu1;injection hu1 with q;cases q
    rw[hd] at hu1;injection hu1 with q;cases q
   subst hkl;have hks:ks=[.bool]:=by
    simp only[bD,hu1] at e1;split at e1
    ·injection e1 with e1;exact e1.symm
    rename_i hne;exact absurd e3 hne
   subst hks;have hvb:(∃p,v= .bool p)∧∃p,u= .bool p:=by
    have l1:=oU _ _ _ _ h;cases v<;>cases u<;>simp[V.cells,iB,iC,V.fits,V.aAE] at h hf<;>exact⟨⟨_,rfl⟩,_,rfl⟩
   obtain⟨⟨p,rfl⟩,q,rfl⟩:=hvb;cases hv;cases hu;exact pn hn t x y _ _ K.w r (fZ _ _ _ _ _ _ _ Zm Zm) Zm Zm Zm Zm hq
  simp at h
 case h_8 fs hu1=>
  split at he
  ·simp at he
  rename_i hgt;obtain⟨ks,e1,e2⟩:=Ka.1 he;obtain⟨k,e3,e4⟩:=Kb.1 e2;subst e4;simp only[veq] at h;split at h
  ·rename_i hf;simp only[Kk] at hf;have hq:=qG K.w e1 e3 or hv hu hf.1 hf.2 h;obtain⟨i,d,hi,hd,hs,hkk⟩:=fS e3;have hkl:∃n,k= .agg n:=by
    rcases hkk with⟨_,h1,_⟩|⟨h1,_⟩
    ·rw[hd] at hu1;injection hu1 with q;exact absurd q (h1 _)
    exact⟨_,h1⟩
   obtain⟨n,rfl⟩:=hkl;have ha:∃cs,a= .agg cs:=by cases hv<;>simp[V.fits] at hf<;>exact⟨_,rfl⟩
   have hb:∃cs,b= .agg cs:=by cases hu<;>simp[V.fits] at hf<;>exact⟨_,rfl⟩
   obtain⟨ca,rfl⟩:=ha;obtain⟨cb,rfl⟩:=hb;exact pn hn t x y _ _ K.w r (run_eqGuard_agg K.w _ _ _ _ _ _ (by simpa using hgt)) Zm Zm Zm Zm hq
  simp at h
 all_goals first
  |(simp at he;done)
  |(injection he with he
    rename_i hu1;revert hv hu;unfold veq at h;split at h
    all_goals first
     |(simp at h;done)
     |(cases he;done)
     |(try (injection he with he))
    all_goals
     intro hv hu;simp only[Option.some.injEq] at h;subst h;cases hv<;>cases hu<;>first
     |(exfalso;exact absurd rfl (by assumption:Own.nil≠Own.nil))
     |(refine pn hn t x y _ _ K.w _ ?_ Zm Zm Zm Zm ?_
       ·first
         |(refine wC _ _ _ _ _ ?_;assumption)
         |(refine fZ _ _ _ _ _ _ _ ?_ ?_<;>simp)
       show Sem.run P (Op.equalIn (9999+1) t _ _) K.w=_;rw[Op.equalIn]
       first
        |(simp[run_underlying hu1];done)
        |(simp[run_underlying hu1];assumption)))
theorem jr{P:Program}{d:Nat}{t:TypeId}{ks:List LK}(h:bD P d t=some ks):∃k,cK P t=some k:=by
 cases d with
 |zero=>simp[bD] at h
 |succ d=>
  unfold bD at h;split at h
  ·split at h
   ·exact⟨_,by assumption⟩
   simp at h
  ·split at h
   ·exact⟨_,by assumption⟩
   simp at h
  ·split at h
   ·exact⟨_,by assumption⟩
   simp at h
  ·split at h
   ·simp at h
   obtain⟨a,_,hb⟩:=Ka.1 h;split at hb
   ·exact⟨_,by assumption⟩
   simp at hb
  simp at h
theorem cM{P:Program}{w:World}{r:Nat}{es:Array MapEntry}{c:Nat}(hb:w.heap[r]?=some (.map es c)):(getObj r).run P w= .ok (.map es c) w:=by simp[getObj,Sem.run,hb]
theorem mS{P:Program}(w:World)(em:Bool):∀(d:Nat) (t:TypeId) (ks:List LK) (k:Sh),bD P d t=some ks→cK P t=some k→k.size=ks.length∧
 ∀(m:Nat) (cx:Nat→Value),d≤m→(Kw em m t (aAa k cx)).run P w= .ok () w
 |0,t,ks,k,h,_=>by simp[bD] at h
 |d+1,t,ks,k,h,hk=>by
  have aAj:∀(lk:LK) (dd:TypeDesc),P.underlying t=some dd→cK P t=some .leaf→ks=[lk]→(dd= .bool∨(∃kk,dd= .int kk)∨dd= .string)→k.size=ks.length∧
   ∀(m:Nat) (cx:Nat→Value),d+1≤m→(Kw em m t (aAa k cx)).run P w= .ok () w:=by
   intro lk dd hu hs hks hdd;rw[hk] at hs;injection hs with hs;subst hs hks;refine⟨rfl,fun m cx hm=>?_⟩;obtain⟨m,rfl⟩:∃m',m=m'+1:=⟨m-1,or⟩;rcases hdd with rfl|⟨kk,rfl⟩|rfl<;>simp[Kw,run_underlying hu]
  unfold bD at h;split at h
  ·rename_i hu;split at h
   ·rename_i hs;injection h with h;exact aAj .bool _ hu hs h.symm (.inl rfl)
   simp at h
  ·rename_i kk hu;split at h
   ·rename_i hs;injection h with h;exact aAj .int _ hu hs h.symm (.inr (.inl ⟨kk,rfl⟩))
   simp at h
  ·rename_i hu;split at h
   ·rename_i hs;injection h with h;exact aAj .str _ hu hs h.symm (.inr (.inr rfl))
   simp at h
  ·rename_i fs hu;split at h
   ·simp at h
   cases hks:fJ (bD P d) fs.toList 0 with
   |none=>simp[hks] at h
   |some ks0=>
    simp only[hks,KH] at h;split at h
    ·rename_i hsh;injection h with h;subst h;rw[hk] at hsh;injection hsh with hsh;subst hsh;refine⟨rfl,fun m cx hm=>?_⟩;obtain⟨m,rfl⟩:∃m',m=m'+1:=⟨m-1,or⟩;simp only[aAa,Kw,Kd,run_underlying hu,Kc];rw[←Array.forIn_toList]
     have key:∀(l:List Field) (off:Nat) (kl:List LK),fJ (bD P d) l off=some kl→off+kl.length≤ks0.length→
      (forIn l PUnit.unit (fun f (_:PUnit)=>do
        if f.name≠ "_" then Kw em m f.type (←part f.type ((Kx ks0.length).map cx).toArray f.offset)
        pure (ForInStep.yield PUnit.unit)):Sem PUnit).run P w= .ok PUnit.unit w:=by
      intro l;induction l with
      |nil=>intro off kl _ _;simp
      |cons f l ih=>
       intro off kl hkl hle;unfold fJ at hkl;split at hkl
       ·rename_i hf;obtain⟨hnm,aPa⟩:=hf;cases hkf:bD P d f.type with
        |none=>simp[hkf] at hkl
        |some kf=>
         simp only[hkf,KH] at hkl;cases hkr:fJ (bD P d) l (off+kf.length) with
         |none=>simp[hkr] at hkl
         |some kr=>
          simp only[hkr,Kq] at hkl;injection hkl with hkl;subst hkl;simp only[Qh] at hle;obtain⟨kk,hkk⟩:=jr hkf;obtain⟨hsz,hch⟩:=mS w em d f.type kf kk hkf hkk;have hp:=rH hkk w ((Kx ks0.length).map cx).toArray cx f.offset (by simp;omega) (fun j hj=>by
           have hj':j<ks0.length:=by simpa using hj
           simp[hj'])
          have hc:=hch m (fun j=>cx (f.offset+j)) or;simp only[List.forIn_cons,Kd,hnm,ne_eq,not_false_eq_true,if_true,Kc,hp,hc,Kf];exact ih _ _ hkr or
       simp at hkl
     have:=key fs.toList 0 ks0 hks or;simp at this⊢;simp[this]
    simp at h
  simp at h
theorem iJ{P:Program}{K:Ker}(w:World)(em:Bool){t:TypeId}{d:Nat}{ks:List LK}{k:Sh}(hks:bD P d t=some ks)(hk:cK P t=some k)(hd:d≤10000){v:V}{cv:Value}(hv:VR K v cv)(hf:v.fits k=true):
 (Kw em 10000 t cv).run P w= .ok () w:=by
 rw[mM hv hf];exact(mS w em d t ks k hks hk).2 10000 _ hd
def MEs(K:Ker)(es:List ME)(ces:List MapEntry):Prop:=es.length=ces.length∧
 ∀i,i<es.length→VR K (es.getD i default).k (ces.getD i default).key∧VR K (es.getD i default).v (ces.getD i default).val∧(ces.getD i default).born=(es.getD i default).b
theorem MEs.tail{K:Ker}{e:ME}{es:List ME}{c:MapEntry}{ces:List MapEntry}(h:MEs K (e::es) (c::ces)):MEs K es ces:=
 ⟨by simpa using h.1,fun i hi=>by simpa using h.2 (i+1) (by simpa using hi)⟩
theorem MEs.head{K:Ker}{e:ME}{es:List ME}{c:MapEntry}{ces:List MapEntry}(h:MEs K (e::es) (c::ces)):VR K e.k c.key∧VR K e.v c.val∧c.born=e.b:=by simpa using h.2 0 Zm
section
variable{P:Program}{K:Ker}(w:World){t:TypeId}{d:Nat}{ks:List LK}{k:Sh}
theorem lu(hks:bD P d t=some ks)(hk:cK P t=some k)(hd:d≤10000){v u:V}{a b:Value}(hv:VR K v a)(hu:VR K u b){r:Bool}(h:veq (.plain k ks) v u=some r):(Op.equal t a b).run P w= .ok r w:=by
 simp only[veq] at h;split at h
 ·rename_i hf;simp only[Kk] at hf;exact qG w hks hk hd hv hu hf.1 hf.2 h
 simp at h
theorem rJ(hks:bD P d t=some ks)(hk:cK P t=some k)(hd:d≤10000){v:V}{cv:Value}(hv:VR K v cv):∀(es:List ME) (ces:List MapEntry) (i:Nat) (r:Option Nat),MEs K es ces→bT (.plain k ks) v es=some r→
 (KJ t cv ces i).run P w= .ok (r.map fun j=>(i+j,(ces.getD j default).val)) w
 | [],ces,i,r,hm,h=>by
  have:ces=[]:=by have:=hm.1;cases ces with
   |nil=>rfl
   |cons=>simp at this
  subst this;simp only[bT,Option.some.injEq] at h;subst h;simp[KJ]
 |e::es,[],i,r,hm,h=>by have:=hm.1;simp at this
 |e::es,c::ces,i,r,hm,h=>by
  simp only[bT] at h;split at h
  ·rename_i he;injection h with h;subst h;simp[KJ,lu w hks hk hd hv hm.head.1 he]
  ·rename_i he;obtain⟨q,hq,rfl⟩:=Kb.1 h;have:=rJ hks hk hd hv es ces (i+1) q hm.tail hq;simp only[KJ,Kd,lu w hks hk hd hv hm.head.1 he,Kc,Kt,if_false,this];cases q with
   |none=>rfl
   |some j=>simp[Km,Qx 1 j]
  simp at h
theorem zD(s s':ByteArray):(s==s')=(s.toList==s'.toList):=by
 have h1:(s==s')=(s.data==s'.data):=by cases s;cases s';rfl
 rw[h1,Bool.eq_iff_iff,beq_iff_eq,beq_iff_eq];constructor
 ·intro h;rw[show s=s' from by cases s;cases s';simp_all]
 intro e;simpa [ByteArray.toList_eq] using e
theorem tw{dd:TypeDesc}{a b:Value}{q:Bool}(h:KQ dd a b=some q):(∃kk k n m,dd= .int kk∧a= .int k n∧b= .int k m∧q=(n==m))∨
 (∃s s',dd= .string∧a= .string s∧b= .string s'∧q=(s==s'))∨∃x y,dd= .bool∧a= .bool x∧b= .bool y∧q=(x==y):=by
 unfold KQ at h;split at h
 ·split at h
  ·rename_i e;subst e;injection h with h;exact .inl ⟨_,_,_,_,rfl,rfl,rfl,h.symm⟩
  cases h
 ·injection h with h;exact .inr (.inl ⟨_,_,rfl,rfl,rfl,h.symm⟩)
 ·injection h with h;exact .inr (.inr ⟨_,_,rfl,rfl,rfl,h.symm⟩)
 cases h
theorem zL(hks:bD P d t=some ks)(hk:cK P t=some k){dd:TypeDesc}(hdd:P.underlying t=some dd){v u:V}{a b:Value}(hv:VR K v a)(hu:VR K u b){r q:Bool}(h:veq (.plain k ks) v u=some r)(hq:KQ dd a b=some q):q=r:=by
 cases d with
 |zero=>simp[bD] at hks
 |succ d=>
 simp only[veq] at h;split at h
 ·rename_i hf;simp only[Kk] at hf;unfold bD at hks;rw[hdd] at hks;rcases tw hq with⟨kk,k',n,m,rfl,rfl,rfl,rfl⟩|⟨s,s',rfl,rfl,rfl,rfl⟩|⟨x,y,rfl,rfl,rfl,rfl⟩
  all_goals
   simp only at hks;split at hks
   ·rename_i hs;rw[hk] at hs;injection hs with hs;subst hs;injection hks with hks;subst hks
    cases hv<;>cases hu<;>first
     |(simp only[V.cells,iB,iC,if_true,Option.some.injEq] at h;first|exact h|(rw[zD];exact h))
     |(exfalso;simp[V.fits,V.aAE] at hf)
   simp at hks
 simp at h
theorem ia(hks:bD P d t=some ks)(hk:cK P t=some k){dd:TypeDesc}(hdd:P.underlying t=some dd){v:V}{cv:Value}(hv:VR K v cv):∀(es:List ME) (ces:List MapEntry) (i:Nat) (r:Option Nat) (q:Option (Nat×Value)),MEs K es ces→bT (.plain k ks) v es=some r→
 KR dd cv ces i=some q→q=r.map fun j=>(i+j,(ces.getD j default).val)
 | [],ces,i,r,q,hm,h,hq=>by
  have:ces=[]:=by have:=hm.1;cases ces with
   |nil=>rfl
   |cons=>simp at this
  subst this;simp only[bT,Option.some.injEq] at h;subst h;simp only[KR,Option.some.injEq] at hq;subst hq;rfl
 |e::es,[],i,r,q,hm,h,hq=>by have:=hm.1;simp at this
 |e::es,c::ces,i,r,q,hm,h,hq=>by
  simp only[bT] at h;simp only[KR] at hq;cases hs:KQ dd cv c.key with
  |none=>simp[hs] at hq
  |some b=>
   rw[hs] at hq;split at h
   ·rename_i he;have:=zL hks hk hdd hv hm.head.1 he hs;subst this;injection h with h;subst h;simp only[Option.some.injEq] at hq;subst hq;simp
   ·rename_i he;have:=zL hks hk hdd hv hm.head.1 he hs;subst this;obtain⟨q',hq',rfl⟩:=Kb.1 h;have:=ia hks hk hdd hv es ces (i+1) q' q hm.tail hq' hq;rw[this];cases q' with
    |none=>rfl
    |some j=>simp[Km,Qx 1 j]
   simp at h
theorem dD(hks:bD P d t=some ks)(hk:cK P t=some k)(hd:d≤10000){v:V}{cv:Value}(hv:VR K v cv){es:List ME}{ces:List MapEntry}{r:Option Nat}(hm:MEs K es ces)(h:bT (.plain k ks) v es=some r):
 (Qm t cv ces).run P w= .ok (r.map fun j=>(j,(ces.getD j default).val)) w:=by
 have hun:∃dd,P.underlying t=some dd:=by
  obtain⟨i,dd,_,hdd,_⟩:=fS hk;exact⟨dd,hdd⟩
 obtain⟨dd,hdd⟩:=hun;simp only[Qm,Kd,run_underlying hdd,Kc];have ha:=rJ w hks hk hd hv es ces 0 r hm h;cases hq:KR dd cv ces 0 with
 |none=>simpa using ha
 |some q=>
  have:=ia hks hk hdd hv es ces 0 r q hm h hq;subst this;simp
theorem wG{e:pO}{v:V}:∀{es:List ME} {j:Nat},bT e v es=some (some j)→j<es.length∧veq e v (es.getD j default).k=some true
 | [],j,h=>by simp[bT] at h
 |x::es,j,h=>by
  simp only[bT] at h;split at h
  ·rename_i he;injection h with h;injection h with h;subst h;exact⟨Zm,by simpa using he⟩
  ·obtain⟨q,hq,hj⟩:=Kb.1 h;cases q with
   |none=>cases hj
   |some i=>
    injection hj with hj;subst hj;have:=wG hq;exact⟨by simp;omega,by simpa using this.2⟩
  simp at h
end
section
variable{P:Program}{o:Oper}{act:Act}{K:Ker}{sl:List V}{h:Hp}{R:V→Prop}
theorem fh{op:BinOp}{t yt:TypeId}{x y:Operand}{l:aW}(hl:fi P op t yt x y=some l)(hs:SlV K sl act)(aAB:l.sem sl h R):
 ∃cv v,(do eqGuard op t x y (act.eval x) (act.eval y);binOp op t (act.eval x) (act.eval y):Sem Value).run P K.w= .ok cv K.w∧VR K v cv∧R v:=by
 unfold fi at hl;obtain⟨lx,hx,hl⟩:=Ka.1 hl;obtain⟨ly,hy,hl⟩:=Ka.1 hl;have vx:=aG hx hs;have vy:=aG hy hs;have aXZ:∀(op:BinOp),(aW.bin op lx ly).sem sl h R→(op≠ .shl∨∃s,lx.ev sl= .str s)→∃cv v,(do eqGuard op t x y (act.eval x) (act.eval y);binOp op t (act.eval x) (act.eval y):Sem Value).run P K.w= .ok cv K.w∧VR K v cv∧R v:=by
  intro op aAB hop;simp only[aW.sem] at aAB;generalize lx.ev sl=v at vx aAB hop;generalize ly.ev sl=u at vy aAB;generalize act.eval x=a at vx⊢;generalize act.eval y=b at vy⊢;split at aAB
  ·obtain⟨rfl,hR⟩:=aAB;cases vx;cases vy;obtain⟨cv,v,h1,h2,h3⟩:=H5 (P:=P) (K:=K) (t:=t) (hop.resolve_right (by rintro⟨s,hs⟩;cases hs)) hR;refine⟨cv,v,?_,h2,h3⟩;rw[Kd,fZ _ _ _ _ _ _ _ Zm Zm];exact h1
  ·cases vx;cases vy;obtain⟨cv,v,h1,h2,h3⟩:=HS (P:=P) (K:=K) (ty:=t) aAB;refine⟨cv,v,?_,h2,h3⟩;rw[Kd,fZ _ _ _ _ _ _ _ Zm Zm];exact h1
  exact aAB.elim
 split at hl
 ·split at hl
  ·simp at hl
  rename_i hop;injection hl with hl;subst hl;exact aXZ op aAB (.inl hop)
 ·injection hl with hl;subst hl;by_cases hop:op= .shl
  ·refine aXZ op aAB ?_;simp only[aW.sem] at aAB;split at aAB
   ·obtain⟨rfl,hR⟩:=aAB;subst hop;exact hR.elim
   ·rename_i s t h1 h2;exact .inr ⟨s,h1⟩
   exact aAB.elim
  exact aXZ op aAB (.inl hop)
 obtain⟨ng,hn,hl⟩:=Ka.1 hl;obtain⟨e,he,hl⟩:=Kb.1 hl;subst hl;simp only[aW.sem] at aAB;split at aAB
 ·rename_i r hr;exact⟨_,_,BK he vx vy hr hn, .bool _,aAB⟩
 exact aAB.elim
theorem ic{fs:Array Field}(hs:SlV K sl act)(places:Array (Nat×Nat))(hp:∀(i:Nat) (f:Field) (k:Sh),fs[i]?=some f→cK P f.type=some k→places[i]?=some (f.offset,k.size))(n:Nat):
 ∀(parts:List (Nat×Operand)) (lp:List (Nat×Sh×aK)) (zs:List V) (cz:Array Value),nE P fs parts=some lp→zs.length=n→cz.size=n→
  (∀j,j<n→VR K (zs.getD j V.undef) (cz.getD j Kh))→(∀p∈lp,(p.2.2.ev sl).fits p.2.1=true∧p.1+p.2.1.size≤n)→
  ∃cz',Qu (places[·]?) cz (parts.map fun(i,x)=>(i,act.eval x))=some cz'∧VR K (.agg (ie zs (lp.map fun p=>(p.1,(p.2.2.ev sl).cells)))) (.agg cz')
 | [],lp,zs,cz,hl,hz,hc,hv,_=>by
  simp[nE] at hl;subst hl;exact⟨cz,rfl, .agg zs cz or (fun i hi=>hv i or)⟩
 |(i,x)::r,lp,zs,cz,hl,hz,hc,hv,hfit=>by
  unfold nE at hl;split at hl
  ·rename_i f hf;obtain⟨k,hk,hl⟩:=Ka.1 hl;obtain⟨l,hx,hl⟩:=Ka.1 hl;obtain⟨lr,hr,hl⟩:=Kb.1 hl;subst hl;have vx:=aG hx hs;have h0:=hfit (f.offset,k,l) Zm;simp only at h0;obtain⟨c1,c2,c3,c4⟩:=vx.cells h0.1;have hpl:=hp i f k hf hk
   have step:∃cz1:Array Value,(((act.eval x).cells.zipIdx.foldl (fun cs (c,j)=>cs.setIfInBounds (f.offset+j) c) cz))=cz1∧cz1.size=n∧
    ∀j,j<n→VR K ((zs.take f.offset++(l.ev sl).cells++zs.drop (f.offset+(l.ev sl).cells.length)).getD j V.undef) (cz1.getD j Kh):=by
    have fold:∀(cs:List Value) (s:Nat) (c0:Array Value),(cs.zipIdx s).foldl (fun cs (p:Value×Nat)=>cs.setIfInBounds (f.offset+p.2) p.1) c0=(cs.zipIdx s).foldl (fun cs (p:Value×Nat)=>cs.setIfInBounds (f.offset+p.2) p.1) c0:=fun _ _ _=>rfl
    have key:∀(cs:List Value) (s:Nat) (c0:Array Value),((cs.zipIdx s).foldl (fun cs (p:Value×Nat)=>cs.setIfInBounds (f.offset+p.2) p.1) c0).size=c0.size∧
     ∀j,j<c0.size→((cs.zipIdx s).foldl (fun cs (p:Value×Nat)=>cs.setIfInBounds (f.offset+p.2) p.1) c0).getD j Kh=if f.offset+s≤j∧j<f.offset+s+cs.length then cs.getD (j-(f.offset+s)) Kh else c0.getD j Kh:=by
     intro cs;induction cs with
     |nil=>intro s c0;exact⟨rfl,fun j hj=>by simp;omega⟩
     |cons c cs ih=>
      intro s c0;obtain⟨i1,i2⟩:=ih (s+1) (c0.setIfInBounds (f.offset+s) c);rw[List.zipIdx_cons,List.foldl_cons];refine⟨by rw[i1];simp,fun j hj=>?_⟩;rw[i2 j (by simpa using hj)];by_cases e:j=f.offset+s
      ·subst e;simp[hj,Kg];intro h1;omega
      by_cases e2:f.offset+(s+1)≤j∧j<f.offset+(s+1)+cs.length
      ·rw[if_pos e2,if_pos (by simp;omega)];have:j-(f.offset+s)=(j-(f.offset+(s+1)))+1:=or;rw[this];simp
      rw[if_neg e2,if_neg (by simp;omega)];simp only[Kg];rw[Array.getElem?_setIfInBounds_ne or]
    obtain⟨k1,k2⟩:=key (act.eval x).cells.toList 0 cz;refine⟨_,rfl,?_,fun j hj=>?_⟩
    ·have:(act.eval x).cells.zipIdx.foldl (fun cs (c,j)=>cs.setIfInBounds (f.offset+j) c) cz=((act.eval x).cells.toList.zipIdx 0).foldl (fun cs (p:Value×Nat)=>cs.setIfInBounds (f.offset+p.2) p.1) cz:=by
      rw[←Qi,Qg]
     rw[this,k1,hc]
    have:(act.eval x).cells.zipIdx.foldl (fun cs (c,j)=>cs.setIfInBounds (f.offset+j) c) cz=((act.eval x).cells.toList.zipIdx 0).foldl (fun cs (p:Value×Nat)=>cs.setIfInBounds (f.offset+p.2) p.1) cz:=by
     rw[←Qi,Qg]
    rw[this,k2 j or];have hlen:(act.eval x).cells.toList.length=k.size:=by simpa using c2
    by_cases e:f.offset+0≤j∧j<f.offset+0+(act.eval x).cells.toList.length
    ·rw[if_pos e];have hj2:j-f.offset<k.size:=or;have:=c3 (j-f.offset) hj2;have e1:(zs.take f.offset++(l.ev sl).cells++zs.drop (f.offset+(l.ev sl).cells.length)).getD j V.undef=(l.ev sl).cell (j-f.offset):=by
      simp only[V.cell,Ke,Qk];rw[KI (by simp;omega),Qa (by simp;omega)];have:j-(zs.take f.offset).length=j-f.offset:=by simp;omega
      rw[this]
     rw[e1];simpa [Kg,Ke] using this
    rw[if_neg e];have:=hv j hj;have e1:(zs.take f.offset++(l.ev sl).cells++zs.drop (f.offset+(l.ev sl).cells.length)).getD j V.undef=zs.getD j V.undef:=by
     simp only[Ke,Qk];by_cases e3:j<f.offset
     ·rw[Qa (by simp;omega),KN,if_pos e3]
     rw[KI (by simp;omega),KI (by simp;omega),KO];congr 2;simp;omega
    rw[e1];exact this
   obtain⟨cz1,hz1,hz2,hz3⟩:=step;obtain⟨cz',q1,q2⟩:=ic hs places hp n r lr (zs.take f.offset++(l.ev sl).cells++zs.drop (f.offset+(l.ev sl).cells.length)) cz1 hr (by simp;omega) hz2 hz3 (fun p hp=>hfit p (by simp[hp]));refine⟨cz',?_,q2⟩;rw[List.map_cons,Qu];simp only[hpl,c2];rw[if_neg (by simp;omega)];rw[hz1];exact q1
  simp at hl
theorem rR{l:aW}(hl:wJ P o=some l)(hs:SlV K sl act)(hr:Rel K h)(aAB:l.sem sl h R):xN P o act K R:=by
 unfold wJ at hl;split at hl;case h_1 x hop=>
  obtain⟨lx,hx,rfl⟩:=Kb.1 hl;exact⟨_,_,by simp[execOp,hop],aG hx hs,aAB⟩
 case h_2 x hop=>
  obtain⟨lx,hx,rfl⟩:=Kb.1 hl;exact⟨_,_,by simp[execOp,hop],aG hx hs,aAB⟩
 case h_3 c a b hop=>
  obtain⟨lc,hc,hl⟩:=Ka.1 hl;obtain⟨la,ha,hl⟩:=Ka.1 hl;obtain⟨lb,hb,rfl⟩:=Kb.1 hl;have vc:=aG hc hs;have va:=aG ha hs;have vb:=aG hb hs;simp only[aW.sem] at aAB;split at aAB
  ·rename_i t ht;rw[ht] at vc;generalize hcv:act.eval c=cv at vc;cases vc;refine⟨if t then act.eval a else act.eval b,_,?_,?_,aAB⟩
   ·simp[execOp,hop,hcv,asBool]
   generalize la.ev sl=v at va⊢;generalize lb.ev sl=u at vb⊢;generalize act.eval a=ca at va⊢;generalize act.eval b=cb at vb⊢;unfold V.pick;split
   ·cases va;cases vb;cases t<;>exact .bool _
   cases t
   ·exact vb
   exact va
  exact aAB.elim
 case h_4 t x hop=>
  obtain⟨k,hk,hl⟩:=Ka.1 hl;obtain⟨lx,hx,rfl⟩:=Kb.1 hl;obtain⟨cv,v,h1,h2,h3⟩:=G1 hk hr (aG hx hs) lx rfl aAB;exact⟨cv,v,by simp[execOp,hop,h1],h2,h3⟩
 case h_5 x hop=>
  obtain⟨lx,hx,rfl⟩:=Kb.1 hl;have vx:=aG hx hs;simp only[aW.sem] at aAB;split at aAB
  ·rename_i n k i oo he;rw[he] at vx;generalize hcv:act.eval x=cv at vx;cases vx with
   |ptr _ _ _ _ hn=>exact⟨_,_,by simp[execOp,hop,hcv], .ptr n k i oo hn,aAB⟩
  ·rename_i k es i oo he;rw[he] at vx;generalize hcv:act.eval x=cv at vx;cases vx with
   |ept _ _ _ _ b off f hb hfit hcell hst hv=>exact⟨_,_,by simp[execOp,hop,hcv], .ept k es i oo b off f hb hfit hcell hst hv,aAB⟩
  exact aAB.elim
 case h_6 op t x y yt hop=>
  obtain⟨cv,v,h1,h2,h3⟩:=fh hl hs aAB;refine⟨cv,v,?_,h2,h3⟩;have:(execOp act.eval o)=(do pure (.value (←(do eqGuard op t x y (act.eval x) (act.eval y);binOp op t (act.eval x) (act.eval y):Sem Value))):Sem Next):=by simp only[execOp,hop]
  rw[this,Kd,h1];rfl
 case h_7 t x hop=>
  obtain⟨lx,hx,rfl⟩:=Kb.1 hl;have vx:=aG hx hs;simp only[aW.sem] at aAB;split at aAB
  ·rename_i b he;rw[he] at vx;generalize hcv:act.eval x=cv at vx;cases vx;exact⟨_,_,by simp[execOp,hop,hcv,Op.unary], .bool _,aAB⟩
  exact aAB.elim
 case h_8 t x hop=>
  obtain⟨lx,hx,rfl⟩:=Kb.1 hl;have vx:=aG hx hs;simp only[aW.sem] at aAB;split at aAB
  ·rename_i k n he;rw[he] at vx;generalize hcv:act.eval x=cv at vx;cases vx;exact⟨.int k (k.wrap (0-n)),_,by simp[execOp,hop,hcv,Op.unary,Op.intArith], .int _ _,aAB⟩
  exact aAB.elim
 case h_9 s d x hop=>
  split at hl
  ·rename_i ks kd h1 h2;obtain⟨lx,hx,rfl⟩:=Kb.1 hl;have vx:=aG hx hs;simp only[aW.sem] at aAB;split at aAB
   ·rename_i k n he;rw[he] at vx;generalize hcv:act.eval x=cv at vx;cases vx;exact⟨_,_,by simp[execOp,hop,hcv,convert,run_underlying h1,run_underlying h2,Conv.intToInt], .int _ _,aAB⟩
   exact aAB.elim
  simp at hl
 case h_10 t x hop=>
  split at hl
  ·simp at hl
  ·rename_i d hd1 hd;obtain⟨lx,hx,rfl⟩:=Kb.1 hl;have vx:=aG hx hs;refine⟨_,_,?_, .iface t _ _ vx,aAB⟩;simp only[execOp,hop,Instr.makeInterface,Kd,run_underlying hd,Kc];cases d<;>first|rfl|(exfalso;exact hd1 _ hd)|(exfalso;exact hd1 _ rfl)
  simp at hl
 case h_11 f first cap hop=>
  obtain⟨la,ha,hl⟩:=Ka.1 hl;obtain⟨lb,hb,rfl⟩:=Kb.1 hl;obtain⟨a1,a2⟩:=fN hs _ _ _ ha;obtain⟨b1,b2⟩:=fN hs _ _ _ hb;refine⟨.func f (first.map act.eval) (cap.map act.eval),_,by simp[execOp,hop,Instr.makeFunc], .fn f _ _ _ _ (by simpa using a1) (by simpa using b1) (fun i hi=>?_) (fun i hi=>?_),aAB⟩
  ·have:=a2 i (by simpa using hi);simpa [Kg,Ke] using this
  have:=b2 i (by simpa using hi);simpa [Kg,Ke] using this
 case h_12 s x f hop=>
  split at hl
  ·rename_i fs hu;split at hl
   ·rename_i fl hf;split at hl
    ·simp at hl
    rename_i hc;obtain⟨lx,hx,rfl⟩:=Kb.1 hl;have vx:=aG hx hs;have hz:∃i,P.info? fl.type=some i∧i.size≠0:=by
     unfold Program.cellsOf at hc;cases hi:P.info? fl.type with
     |none=>simp[hi] at hc
     |some i=>simp[hi] at hc;exact⟨i,rfl,hc⟩
    obtain⟨inf,hi,hz⟩:=hz;have hfp:∀a:Addr,(fieldPlace a fl).run P K.w= .ok (a.add fl.offset) K.w:=fun a=>by simp[fieldPlace,sizeOf,typeInfo,hi,hz]
    simp only[aW.sem] at aAB;split at aAB
    ·rename_i n k i oo he;rw[he] at vx;generalize hcv:act.eval x=cv at vx;cases vx with
     |ptr _ _ _ _ hn=>
      refine⟨_,_,?_, .ptr n k i (oo+fl.offset) hn,aAB⟩;simp only[execOp,hop,hcv,Qo,Kd,run_underlying hu,Kc,hf,Kv,Kf,hfp,dO,Km]
    ·rename_i k es i oo he;rw[he] at vx;generalize hcv:act.eval x=cv at vx;cases vx with
     |ept _ _ _ _ b off f hb hfit hcell hst hv=>
      refine⟨_,_,?_, .ept k es i (oo+fl.offset) b off f hb hfit hcell hst hv,aAB⟩;simp only[execOp,hop,hcv,Qo,Kd,run_underlying hu,Kc,hf,Kv,Kf,hfp,dO,Km]
    exact aAB.elim
   simp at hl
  simp at hl
 case h_13 s x f hop=>
  split at hl
  ·rename_i fs hu;split at hl
   ·rename_i fl hf;obtain⟨k,hk,hl⟩:=Ka.1 hl;obtain⟨lx,hx,rfl⟩:=Kb.1 hl;have vx:=aG hx hs;simp only[aW.sem] at aAB;split at aAB
    ·rename_i cs he;obtain⟨hp,hlf,hR⟩:=aAB;rw[he] at vx;have hfit:(V.agg cs).fits (.agg cs.length)=true:=by simp only[V.fits,decide_true,Bool.true_and];exact hlf
     obtain⟨f1,f2,f3⟩:=gQ hp hfit;have f2:fl.offset+k.size≤cs.length:=f2;generalize hcv:act.eval x=cv at vx;cases vx with
     |agg _ ccs hl hv=>
      have aBr:=rH hk K.w ccs (fun j=>ccs.getD j Kh) fl.offset or (fun _ _=>rfl);refine⟨_,_,?_,VR.aAa (f:=fun j=>ccs.getD (fl.offset+j) Kh) f1 (fun j hj=>?_),hR⟩
      ·simp only[execOp,hop,hcv,Instr.field,Kd,run_underlying hu,Kc,hf,asAgg,Kf,aBr]
      rw[f3 j hj];exact hv (fl.offset+j) or
    exact aAB.elim
   simp at hl
  simp at hl
 case h_14 t x i hop=>
  split at hl
  ·rename_i e hu;obtain⟨k,hk,hl⟩:=Ka.1 hl;obtain⟨lx,hx,hl⟩:=Ka.1 hl;obtain⟨li,hi,rfl⟩:=Kb.1 hl;have vx:=aG hx hs;have vi:=aG hi hs;simp only[aW.sem] at aAB;split at aAB
   ·rename_i k' own es ik j he hj;obtain⟨rfl,h0,h1,hR⟩:=aAB;rw[he] at vx;rw[hj] at vi;generalize hcv:act.eval x=cv at vx;generalize hci:act.eval i=ci at vi;cases vi;cases vx with
    |slnil=>simp at h1;omega
    |slz=>simp at h1;omega
    |sl _ _ _ b off cap f hb hfit hcell hst hv hcap hnil hfull htok=>
     refine⟨_,_,?_, .ept k' es j.toNat 0 b off f hb hfit hcell hst hv,hR⟩;simp only[execOp,hop,hcv,hci,KS,asIntOf,Kd,Kf,Kc,run_underlying hu];rw[if_pos ⟨h0,h1⟩];simp only[Kd,eN hk,Kc,Kf,dO,KP]
   ·rename_i n k' off ln ik j he hj;obtain⟨rfl,h0,h1,hR⟩:=aAB;rw[he] at vx;rw[hj] at vi;generalize hcv:act.eval x=cv at vx;generalize hci:act.eval i=ci at vi;cases vi;cases vx with
    |rs _ _ _ _ cap hn hcap hm=>
     refine⟨_,_,?_, .ptr n k' (off+j.toNat) 0 hn,hR⟩;simp only[execOp,hop,hcv,hci,KS,asIntOf,Kd,Kf,Kc,run_underlying hu];rw[if_pos ⟨h0,h1⟩];simp only[Kd,eN hk,Kc,Kf,dO,KP,KD]
   exact aAB.elim
  ·rename_i n e hu;obtain⟨k,hk,hl⟩:=Ka.1 hl;obtain⟨lx,hx,hl⟩:=Ka.1 hl;obtain⟨li,hi,rfl⟩:=Kb.1 hl;have vx:=aG hx hs;have vi:=aG hi hs;simp only[aW.sem] at aAB;split at aAB
   ·rename_i m k' i' oo ik j he hj;obtain⟨h0,h1,hR⟩:=aAB;rw[he] at vx;rw[hj] at vi;generalize hcv:act.eval x=cv at vx;generalize hci:act.eval i=ci at vi;cases vi;cases vx with
    |ptr _ _ _ _ hn=>
     refine⟨_,_,?_, .ptr m k' i' (oo+j.toNat*k.size) hn,hR⟩;simp only[execOp,hop,hcv,hci,KS,asIntOf,Kd,Kf,Kc,run_underlying hu,Kv];rw[if_pos ⟨h0,h1⟩];simp only[Kd,eN hk,Kc,Kf,dO,Km]
   ·rename_i k' es' i' oo ik j he hj;obtain⟨h0,h1,hR⟩:=aAB;rw[he] at vx;rw[hj] at vi;generalize hcv:act.eval x=cv at vx;generalize hci:act.eval i=ci at vi;cases vi;cases vx with
    |ept _ _ _ _ b off f hb hfit hcell hst hv=>
     refine⟨_,_,?_, .ept k' es' i' (oo+j.toNat*k.size) b off f hb hfit hcell hst hv,hR⟩;simp only[execOp,hop,hcv,hci,KS,asIntOf,Kd,Kf,Kc,run_underlying hu,Kv];rw[if_pos ⟨h0,h1⟩];simp only[Kd,eN hk,Kc,Kf,dO,Km]
   exact aAB.elim
  simp at hl
 case h_15 x i hop=>
  obtain⟨lx,hx,rfl⟩:=Kb.1 hl;have vx:=aG hx hs;simp only[aW.sem] at aAB;split at aAB
  ·rename_i vs he;rw[he] at vx;generalize hcv:act.eval x=cv at vx;cases vx with
   |tup _ ccs hlen hv=>
    refine⟨_,_,?_,hv i aAB.1,aAB.2⟩;have:ccs[i]?=some (ccs.getD i Kh):=by
     rw[Kg,Ks or];rfl
    simp only[execOp,hop,hcv,Instr.extract,this,Kd,Kf,Kc]
  exact aAB.elim
 case h_16 t x lo hi mx hop=>
  have bnd:∀(o:Option Operand) (lo:Option aK) (d:Int) (n:Int),eX P o=some lo→cW sl d lo=some n→(o=none∧lo=none∧n=d)∨∃x l k,o=some x∧lo=some l∧act.eval x= .int k n∧eC sl lo=some n:=by
   intro o lo d n h1 h2;cases o with
   |none=>
    simp only[eX,Option.some.injEq] at h1;subst h1;simp only[cW,Option.some.injEq] at h2;exact .inl ⟨rfl,rfl,h2.symm⟩
   |some x=>
    simp only[eX] at h1;obtain⟨l,hl,rfl⟩:=Kb.1 h1;have vl:=aG hl hs;simp only[cW] at h2;split at h2
    ·rename_i k m he;injection h2 with h2;subst h2;rw[he] at vl;generalize hcv:act.eval x=cv at vl;cases vl;exact .inr ⟨x,l,k,rfl,rfl,hcv,by simp only[eC,he]⟩
    cases h2
  have hb:∀(isl:Bool) (len cap:Nat) (llo lhi lmx:Option aK) (l h' m:Int),eX P lo=some llo→eX P hi=some lhi→eX P mx=some lmx→
   cW sl 0 llo=some l→cW sl len lhi=some h'→cW sl len lmx=some m→0≤l→l≤h'→h'≤m→m≤len→(lhi.isNone=true→lmx.isNone=true)→len≤cap→
   (Kp isl len cap (lo.map act.eval) (hi.map act.eval) (mx.map act.eval)).run P K.w= .ok (l.toNat,h'.toNat,if lmx.isSome then m.toNat else cap) K.w:=by
   intro isl len cap llo lhi lmx l h' m hlo hhi hmx b1 b2 b3 l0 l1 l2 l3 l4 hcap;rcases bnd mx lmx _ _ hmx b3 with⟨rfl,rfl,rfl⟩|⟨xm,lm,km,rfl,rfl,em,_⟩
   ·rcases bnd hi lhi _ _ hhi b2 with⟨rfl,rfl,rfl⟩|⟨xh,lh,kh,rfl,rfl,eh,_⟩
    ·rcases bnd lo llo _ _ hlo b1 with⟨rfl,rfl,rfl⟩|⟨xl,ll,kl,rfl,rfl,el,_⟩
     ·simp[Kp]
     have c1:0≤l∧l≤(len:Int):=⟨l0,or⟩;simp[Kp,KE,el,asIntOf,c1]
    have c2:0≤h'∧h'≤(cap:Int):=⟨or,or⟩;rcases bnd lo llo _ _ hlo b1 with⟨rfl,rfl,rfl⟩|⟨xl,ll,kl,rfl,rfl,el,_⟩
    ·simp[Kp,KE,eh,asIntOf,c2]
    have c1:0≤l∧l≤((h'.toNat:Nat):Int):=⟨l0,or⟩;simp only[Kp,KE,el,eh,asIntOf,Kq,KA,Kz,Kd,Kf,Kc,if_pos c1,if_pos c2,Kt,if_false]
   have c3:0≤m∧m≤(cap:Int):=⟨or,or⟩;rcases bnd hi lhi _ _ hhi b2 with⟨rfl,rfl,rfl⟩|⟨xh,lh,kh,rfl,rfl,eh,_⟩
   ·simp at l4
   have c2:0≤h'∧h'≤((m.toNat:Nat):Int):=⟨or,or⟩;rcases bnd lo llo _ _ hlo b1 with⟨rfl,rfl,rfl⟩|⟨xl,ll,kl,rfl,rfl,el,_⟩
   ·simp only[Kp,KE,em,eh,asIntOf,Kq,KA,KZ,Kd,Kf,Kc,if_pos c2,if_pos c3,if_true];simp
   have c1:0≤l∧l≤((h'.toNat:Nat):Int):=⟨l0,or⟩;simp only[Kp,KE,em,el,eh,asIntOf,Kq,KA,KZ,Kd,Kf,Kc,if_pos c1,if_pos c2,if_pos c3,if_true]
  split at hl
  ·rename_i e hu;obtain⟨ke,hke,hl⟩:=Ka.1 hl;obtain⟨lx,hx,hl⟩:=Ka.1 hl;obtain⟨llo,hlo,hl⟩:=Ka.1 hl;obtain⟨lhi,hhi,hl⟩:=Ka.1 hl;obtain⟨lmx,hmx,rfl⟩:=Kb.1 hl;have vx:=aG hx hs;simp only[aW.sem] at aAB
   have aAe:∀(a:Option Addr) (len cap:Nat) (l h' m:Int),act.eval x= .slice a len cap→
    cW sl 0 llo=some l→cW sl len lhi=some h'→cW sl len lmx=some m→0≤l→l≤h'→h'≤m→m≤len→(lhi.isNone=true→lmx.isNone=true)→len≤cap→
    (execOp act.eval o).run P K.w= .ok (.value (.slice (if (if lmx.isSome then m.toNat else cap)=l.toNat then a else a.map (·.add (l.toNat*ke.size))) (h'.toNat-l.toNat) ((if lmx.isSome then m.toNat else cap)-l.toNat))) K.w:=by
    intro a len cap l h' m hc b1 b2 b3 l0 l1 l2 l3 l4 hcap;have hsz:=eN hke K.w;have hb:=hb true len cap llo lhi lmx l h' m hlo hhi hmx b1 b2 b3 l0 l1 l2 l3 l4 hcap;simp only[execOp,hop,Qb,Kd,run_underlying hu,Kc,hc,Qr,hb,hsz,Kf]
   have hog:∀(o:Option Operand) (lo:Option aK) (d n:Int),eX P o=some lo→cW sl d lo=some n→(lo=none∧eC sl lo=none∧n=d)∨(lo.isSome=true∧eC sl lo=some n):=by
    intro o lo d n h1 h2;rcases bnd o lo d n h1 h2 with⟨_,rfl,h3⟩|⟨x,l,k,_,rfl,_,h3⟩
    ·exact .inl ⟨rfl,rfl,h3⟩
    exact .inr ⟨rfl,h3⟩
   split at aAB
   ·rename_i k' own es he;split at aAB
    ·rename_i l h' m b1 b2 b3;obtain⟨rfl,l0,l1,l2,l3,l4,hR⟩:=aAB;rw[he] at vx;generalize hcv:act.eval x=cv at vx;have hlen:((es.take h'.toNat).drop l.toNat).length=h'.toNat-l.toNat:=by simp;omega
     cases vx with
     |slnil=>
      have hz:l=0∧h'=0∧m=0:=by simp at l3;omega
      refine⟨_,_,aAe none 0 0 l h' m hcv b1 b2 b3 l0 l1 l2 l3 l4 (Ko _),?_,hR⟩;obtain⟨rfl,rfl,rfl⟩:=hz;simpa [iD,xE] using VR.slnil (K:=K) k'
     |slz _ ad=>
      have hz:l=0∧h'=0∧m=0:=by simp at l3;omega
      refine⟨_,_,aAe (some ad) 0 0 l h' m hcv b1 b2 b3 l0 l1 l2 l3 l4 (Ko _),?_,hR⟩;obtain⟨rfl,rfl,rfl⟩:=hz;simpa [lA] using VR.slz (K:=K) k' ad
     |sl _ _ _ b off cap f hb' hfit hcell hst hv hcap hnil hfull htok=>
      refine⟨_,_,aAe _ es.length cap l h' m hcv b1 b2 b3 l0 l1 l2 l3 l4 hcap,?_,hR⟩;refine VR.aDQ hnil ?_;have hnc:∃nc,(if lmx.isSome then m.toNat else cap)=nc∧h'.toNat≤nc∧nc≤cap∧iD own (eC sl lhi) (eC sl lmx)≠ .nil∧(iD own (eC sl lhi) (eC sl lmx)= .full→nc=h'.toNat)∧∀n,iD own (eC sl lhi) (eC sl lmx)= .tok n→own= .tok n∧nc=cap∧h'.toNat=es.length:=by
       refine⟨_,rfl,?_⟩;rcases hog mx lmx _ _ hmx b3 with⟨e1,e2,e3⟩|⟨e1,e2⟩
       ·subst e1;rcases hog hi lhi _ _ hhi b2 with⟨f1,f2,f3⟩|⟨f1,f2⟩
        ·subst f1;have ec:iD own (eC sl none) (eC sl none)=own:=by cases own<;>rfl
         rw[ec];simp only[Kz,Kt,if_false];exact⟨or,Ko _,hnil,fun h=>by rw[hfull h];omega,fun n h=>⟨h,trivial,or⟩⟩
        have ec:iD own (eC sl lhi) (eC sl none)= .free:=by
         rw[f2];cases own<;>first|rfl|exact absurd rfl hnil
        rw[ec];simp only[Kz,Kt,if_false];exact⟨or,Ko _,Zm,Zm,Zm⟩
       rcases hog hi lhi _ _ hhi b2 with⟨f1,f2,f3⟩|⟨f1,f2⟩
       ·subst f1;have:=l4 rfl;simp_all
       have ec:iD own (eC sl lhi) (eC sl lmx)=if h'=m then .full else .free:=by
        rw[f2,e2];cases own<;>first|rfl|exact absurd rfl hnil
       rw[ec];rw[if_pos e1];refine⟨or,or,by split<;>simp,fun h=>?_,fun n h=>by split at h<;>cases h⟩;split at h
       ·rename_i e;rw[e]
       cases h
      obtain⟨nc,hnc,n1,n2,n3,n4,n5⟩:=hnc;rw[hnc,←hlen];have sz:∀j,j<((es.take h'.toNat).drop l.toNat).length*k'.size→l.toNat*k'.size+j<es.length*k'.size:=by
       intro j hj;rw[hlen] at hj;have h1:l.toNat*k'.size+(h'.toNat-l.toNat)*k'.size=h'.toNat*k'.size:=by rw[←KD];congr 1;omega
       have h2:h'.toNat*k'.size≤es.length*k'.size:=Ku _ or;omega
      have hget:∀i,i<((es.take h'.toNat).drop l.toNat).length→((es.take h'.toNat).drop l.toNat).getD i V.undef=es.getD (l.toNat+i) V.undef:=by
       intro i hi;rw[hlen] at hi;simp only[Ke,KO,KN];rw[if_pos or]
      by_cases hcl:nc=l.toNat
      ·rw[if_pos hcl];have h0:((es.take h'.toNat).drop l.toNat).length=0:=or;refine VR.sl k' _ _ b off _ f hb' (fun e he=>hfit e (KV (KU he))) (fun j hj=>by rw[h0] at hj;simp at hj) (fun j hj=>by rw[h0] at hj;simp at hj) (fun i hi=>by rw[h0] at hi;exact absurd hi or) or n3 (fun _=>or) (fun n hn=>?_);obtain⟨o1,o2,o3⟩:=n5 n hn;exact⟨(htok n o1).1, .inl or⟩
      rw[if_neg hcl];have aGi:(Qz (fun a:Addr=>a.add (l.toNat*k'.size)) (some ⟨b,off,none⟩))=some ⟨b,off+l.toNat*k'.size,none⟩:=by simp only[Kq,dO]
      rw[aGi];refine VR.sl k' _ _ b (off+l.toNat*k'.size) _ (fun j=>f (l.toNat*k'.size+j)) hb' (fun e he=>hfit e (KV (KU he))) (fun j hj=>?_) (fun j hj=>?_) (fun i hi j hj=>?_) or n3 (fun h=>by have:=n4 h;omega) (fun n hn=>?_)
      ·rw[Km];exact hcell _ (sz j hj)
      ·rw[Km];exact hst _ (sz j hj)
      ·rw[hget i hi];have:=hv (l.toNat+i) or j hj;rw[KD,Km] at this;exact this
      obtain⟨o1,o2,o3⟩:=n5 n hn;obtain⟨t1,t2⟩:=htok n o1;refine⟨t1,?_⟩;rcases t2 with t2|⟨t2,t3,T,mm,t4,t5⟩
      ·exact .inl or
      refine .inr ⟨t2,?_,T,mm,t4,?_⟩
      ·rw[t3,hlen,o3,Km,←KD];congr 2;omega
      rw[o2,Km,←KD];have:l.toNat+(cap-l.toNat)=cap:=or;rw[this];exact t5
    exact aAB.elim
   ·rename_i n k' off ln he;split at aAB
    ·rename_i l h' b1 b2 _ _ _ _;obtain⟨rfl,l0,l1,l2,hR⟩:=aAB;rw[he] at vx;generalize hcv:act.eval x=cv at vx;cases vx with
     |rs _ _ _ _ cap hn hcap hm=>
      refine⟨_,_,aAe _ ln cap l h' ln hcv b1 b2 rfl l0 l1 l2 (KL _) (fun _=>rfl) hcap,?_,hR⟩;simp only[Kz,Kt,if_false];obtain⟨T,mm,hsh,hmm⟩:=hm;have hlt:K.mu n<K.w.heap.size:=by
       unfold KB at hsh;rcases Qc (K.mu n) K.w.heap.size with hlt|hge
       ·exact hlt
       rw[KF hge] at hsh;exact absurd hsh Zm
      have aGi:(Qz (fun a:Addr=>a.add (l.toNat*k'.size)) (some ⟨K.mu n,off*k'.size,none⟩))=some ⟨K.mu n,(off+l.toNat)*k'.size,none⟩:=by simp only[Kq,dO,KD]
      by_cases hc1:l.toNat=ln∧l.toNat≠0
      ·rw[if_pos hc1];have e0:h'.toNat-l.toNat=0:=or;rw[e0];have:∀o,VR K (.sl k' .free []) (.slice (some ⟨K.mu n,o,none⟩) 0 (cap-l.toNat)):=fun o=>
        VR.sl k' .free [] (K.mu n) o (cap-l.toNat) (fun _=>Kh) hlt Zm Zm Zm Zm Zm Zm Zm Zm
       split
       ·exact this _
       rw[aGi];exact this _
      rw[if_neg hc1];split
      ·rename_i e;have:l.toNat=0:=or;rw[this];exact VR.rs n k' off (h'.toNat-0) (cap-0) hn or ⟨T,mm,hsh,hmm⟩
      rw[aGi];refine VR.rs n k' (off+l.toNat) (h'.toNat-l.toNat) (cap-l.toNat) hn or ⟨T,mm,hsh,?_⟩;have:off+l.toNat+(cap-l.toNat)=off+cap:=or;rw[this];exact hmm
    ·rename_i l h' mx' b1 b2 _ _ _ _;obtain⟨b3,rfl,rfl,rfl,his,hR⟩:=aAB;rw[he] at vx;generalize hcv:act.eval x=cv at vx;cases vx with
     |rs _ _ _ _ cap hn hcap hm=>
      refine⟨_,_,aAe _ ln cap 0 0 0 hcv b1 b2 b3 (KL _) (KL _) (KL _) or (fun h=>by rw[Option.isNone_iff_eq_none] at h;rw[h] at his;cases his) hcap,?_,hR⟩;obtain⟨T,mm,hsh,hmm⟩:=hm;have hlt:K.mu n<K.w.heap.size:=by
       unfold KB at hsh;rcases Qc (K.mu n) K.w.heap.size with hlt|hge
       ·exact hlt
       rw[KF hge] at hsh;exact absurd hsh Zm
      simp only[KZ,if_true,Qq,Nat.sub_self];exact VR.sl k' .full [] (K.mu n) (off*k'.size) 0 (fun _=>Kh) hlt Zm Zm Zm Zm Zm Zm Zm Zm
    exact aAB.elim
   exact aAB.elim
  ·rename_i hu;split at hl
   ·simp at hl
   rename_i hmn;obtain⟨lx,hx,hl⟩:=Ka.1 hl;obtain⟨llo,hlo,hl⟩:=Ka.1 hl;obtain⟨lhi,hhi,rfl⟩:=Kb.1 hl;have vx:=aG hx hs;have hmn:mx=none:=by simpa using hmn
   simp only[aW.sem] at aAB;split at aAB
   ·rename_i s he;split at aAB
    ·rename_i l h' b1 b2;obtain⟨l0,l1,l2,hR⟩:=aAB;rw[he] at vx;generalize hcv:act.eval x=cv at vx;cases vx;have hb:=hb false s.size s.size llo lhi none l h' s.size hlo hhi (by rw[hmn];rfl) b1 b2 rfl l0 l1 l2 (KL _) (fun _=>rfl) (Ko _);subst hmn;simp only[KA] at hb;exact⟨_,_,by simp only[execOp,hop,Qb,Kd,run_underlying hu,Kc,hcv,Qr,KA,Kz,Kt,if_false,hb,Kf], .str _,hR⟩
    exact aAB.elim
   exact aAB.elim
  ·rename_i n e hu;split at hl
   ·simp at hl
   rename_i hmn;obtain⟨ke,hke,hl⟩:=Ka.1 hl;obtain⟨lx,hx,hl⟩:=Ka.1 hl;obtain⟨lhi,hhi,rfl⟩:=Kb.1 hl;have vx:=aG hx hs;obtain⟨hm0,hl0⟩:mx=none∧lo=none:=by simpa using hmn
   subst hm0 hl0;simp only[aW.sem] at aAB;split at aAB
   ·rename_i m e1 he;split at aAB
    ·rename_i h' b2;obtain⟨hm,l1,l2,hR⟩:=aAB;rw[he] at vx;generalize hcv:act.eval x=cv at vx;cases vx with
     |ept _ _ _ _ b off f aZR hfit hcell hst hv=>
      have hsz:=eN hke K.w;have hb:=hb false n n none lhi none 0 h' n rfl hhi rfl rfl b2 rfl (KL _) l1 l2 (KL _) (fun _=>rfl) (Ko _);simp only[KA] at hb;have hf1:=hfit e1 Zm;have hlen:((qL ke n e1).take h'.toNat).length=h'.toNat:=by simp[qL];omega
      have aBr:∀j,j<n→cA (.agg m) ke (j*ke.size):=fun j hj=>by
       have h2:(j+1)*ke.size≤n*ke.size:=Ku _ hj;rw[KD] at h2;cases ke with
       |leaf=>simp only[cA,Sh.size] at h2 hm⊢;omega
       |agg q=>simp only[cA,Sh.size] at h2 hm⊢;omega
      have hget:∀j,j<h'.toNat→((qL ke n e1).take h'.toNat).getD j V.undef=bB ke (j*ke.size) e1:=fun j hj=>by
       simp only[qL,Ke,List.getElem?_take_of_lt hj,List.getElem?_map];rw[List.getElem?_range or];rfl
      have hle:h'.toNat*ke.size≤n*ke.size:=Ku _ or
      have vs:=VR.sl (K:=K) ke .free ((qL ke n e1).take h'.toNat) b off n f aZR
       (fun x hx=>by
         obtain⟨j,hj,rfl⟩:=Qf hx;rw[hlen] at hj;have h3:=hget j hj;rw[Ke,Ki (by rw[hlen];exact hj)] at h3;have h3:((qL ke n e1).take h'.toNat)[j]=bB ke (j*ke.size) e1:=h3;rw[h3];exact(gQ (aBr j or) hf1).1)
       (fun j hj=>hcell j (show j<1*m by rw[hlen] at hj;omega))
       (fun j hj=>hst j (show j<1*m by rw[hlen] at hj;omega))
       (fun j hj q hq=>by
         rw[hlen] at hj;rw[hget j hj,(gQ (aBr j or) hf1).2.2 q hq];have h2:(j+1)*ke.size≤n*ke.size:=Ku _ or;rw[KD] at h2;have:=hv 0 Zm (j*ke.size+q) (show j*ke.size+q<m by omega);simpa using this)
       (by rw[hlen];omega) Zm Zm (fun q e=>by cases e)
      rw[hlen] at vs;refine⟨_,_,?_,vs,hR⟩;simp only[execOp,hop,Qb,Kv,Kd,run_underlying hu,Kc,hcv,KA,hb,hsz,Kf,Kz,Kt,if_false,Qq,Qw,Nat.sub_zero,KP];simp[Addr.add]
    exact aAB.elim
   exact aAB.elim
  simp at hl
 case h_17 args ts hop=>
  split at hl
  ·rename_i x t hxs hts;have ha:args=#[x]:=by apply KX;simpa using hxs
   have ht:ts=#[t]:=by apply KX;simpa using hts
   subst ha ht;split at hl
   ·rename_i e hu;obtain⟨lx,hx,rfl⟩:=Kb.1 hl;have vx:=aG hx hs;simp only[aW.sem] at aAB;split at aAB
    ·rename_i k own es he;rw[he] at vx;generalize hcv:act.eval x=cv at vx;cases vx<;>exact⟨_,_,by simp[execOp,hop,resolve,invoke,builtin,KM,hcv,run_underlying hu,goInt], .int _ _,aAB⟩
    ·rename_i n k off ln he;rw[he] at vx;generalize hcv:act.eval x=cv at vx;cases vx;exact⟨_,_,by simp[execOp,hop,resolve,invoke,builtin,KM,hcv,run_underlying hu,goInt], .int _ _,aAB⟩
    exact aAB.elim
   ·rename_i hu;obtain⟨lx,hx,rfl⟩:=Kb.1 hl;have vx:=aG hx hs;simp only[aW.sem] at aAB;split at aAB
    ·rename_i s he;rw[he] at vx;generalize hcv:act.eval x=cv at vx;cases vx;exact⟨_,_,by simp[execOp,hop,resolve,invoke,builtin,KM,hcv,run_underlying hu,goInt], .int _ _,aAB⟩
    exact aAB.elim
   ·rename_i kt et hu;obtain⟨lx,hx,rfl⟩:=Kb.1 hl;have vx:=aG hx hs;simp only[aW.sem] at aAB;split at aAB
    ·rename_i he;rw[he] at vx;generalize hcv:act.eval x=cv at vx;cases vx;exact⟨_,_,by simp[execOp,hop,resolve,invoke,builtin,KM,hcv,run_underlying hu,goInt], .int _ _,aAB⟩
    ·rename_i n he;split at aAB
     ·rename_i es c hn;rw[he] at vx;generalize hcv:act.eval x=cv at vx;cases vx;have hb:=hr.blk n _ hn;cases hb with
      |mp _ _ ces hh hl hv=>exact⟨_,_,by simp[execOp,hop,resolve,invoke,builtin,KM,hcv,run_underlying hu,goInt,cM hh,←hl], .int _ _,aAB⟩
     exact aAB.elim
    exact aAB.elim
   simp at hl
  simp at hl
 case h_18 t parts hop=>
  split at hl
  ·rename_i fs z hu hz;split at hl
   ·rename_i zs hzs;split at hl
    ·rename_i hck;obtain⟨lp,hlp,rfl⟩:=Kb.1 hl;simp only[Kk,Ky] at hck;obtain⟨hfit,hR⟩:=aAB;have vz:=dU hzs K;obtain⟨it,hit,hiz⟩:=Ka.1 hz;have hpl:fs.toList.mapM (fun f=>(P.info? f.type).map fun i=>(f.offset,i.size))=some (fs.toList.map fun f=>(f.offset,((cK P f.type).map Sh.size).getD 0)):=by
      have:∀l:List Field,(∀f∈l,(cK P f.type).isSome=true)→l.mapM (fun f=>(P.info? f.type).map fun i=>(f.offset,i.size))=some (l.map fun f=>(f.offset,((cK P f.type).map Sh.size).getD 0)):=by
       intro l;induction l with
       |nil=>intro _;rfl
       |cons f l ih=>
        intro hl;obtain⟨k,hk⟩:=Option.isSome_iff_exists.1 (hl f Zm);obtain⟨i,d,hi,hd,hsz,_⟩:=fS hk;simp[List.mapM_cons,hi,ih (fun f hf=>hl f (by simp[hf])),hk,hsz]
      exact this _ hck.2
     cases vz with
     |agg _ cz hlen hv=>
      obtain⟨cz',q1,q2⟩:=ic hs (fs.toList.map fun f=>(f.offset,((cK P f.type).map Sh.size).getD 0)).toArray (fun i f k hf hk=>by
       have:fs.toList[i]?=some f:=by simpa using hf
       simp[hf,hk]) zs.length parts.toList lp zs cz hlp rfl hlen.symm hv hfit
      refine⟨_,_,?_,q2,hR⟩;have hb:P.built t (parts.map fun(i,x)=>(i,act.eval x)).toList=some cz':=by
       unfold Program.built;simp only[hit,hu,hiz,hpl];have hcc:(Value.agg cz).cells=cz:=rfl;rw[hcc];simpa using q1
      simp only[execOp,hop,Kd,run_build K.w t _ cz' hb,Kc,Kf]
    simp at hl
   simp at hl
  simp at hl
 case h_19 x hop=>
  injection hl with hl;subst hl;exact aAB.elim
 case h_20 args ts hop=>
  split at hl
  ·rename_i x t hxs hts;have ha:args=#[x]:=by apply KX;simpa using hxs
   have ht:ts=#[t]:=by apply KX;simpa using hts
   subst ha ht;split at hl
   ·rename_i e hu;obtain⟨lx,hx,rfl⟩:=Kb.1 hl;have vx:=aG hx hs;simp only[aW.sem] at aAB;split at aAB
    ·rename_i k es he;rw[he] at vx;generalize hcv:act.eval x=cv at vx;cases vx with
     |slnil=>exact⟨_,_,by simp[execOp,hop,resolve,invoke,builtin,Qp,hcv,run_underlying hu,goInt], .int _ _,aAB⟩
     |sl _ _ _ b off cap f hb' hfit' hcell hst hv hcap hnil hfull htok=>exact absurd rfl hnil
    ·rename_i k es he;rw[he] at vx;generalize hcv:act.eval x=cv at vx;cases vx with
     |sl _ _ _ b off cap f hb' hfit' hcell hst hv hcap hnil hfull htok=>
      have hc:=hfull rfl;subst hc;exact⟨_,_,by simp[execOp,hop,resolve,invoke,builtin,Qp,hcv,run_underlying hu,goInt], .int _ _,aAB⟩
    exact aAB.elim
   simp at hl
  simp at hl
 case h_21 args ts hop=>
  split at hl
  ·rename_i x y hxs;have ha:args=#[x,y]:=by apply KX;simpa using hxs
   subst ha;obtain⟨lx,hx,hl⟩:=Ka.1 hl;obtain⟨ly,hy,rfl⟩:=Kb.1 hl;have vx:=aG hx hs;have vy:=aG hy hs;simp only[aW.sem] at aAB;split at aAB
   ·rename_i k a k' b he he';obtain⟨rfl,aAB⟩:=aAB;rw[he] at vx;rw[he'] at vy;generalize hcv:act.eval x=cv at vx;generalize hcu:act.eval y=cu at vy;cases vx;cases vy;exact⟨_,_,by simp[execOp,hop,resolve,invoke,builtin,Builtin.min_,Builtin.min2,hcv,hcu];rfl, .int _ _,aAB⟩
   exact aAB.elim
  simp at hl
 case h_22 args ts hop=>
  split at hl
  ·rename_i x y hxs;have ha:args=#[x,y]:=by apply KX;simpa using hxs
   subst ha;obtain⟨lx,hx,hl⟩:=Ka.1 hl;obtain⟨ly,hy,rfl⟩:=Kb.1 hl;have vx:=aG hx hs;have vy:=aG hy hs;simp only[aW.sem] at aAB;split at aAB
   ·rename_i k a k' b he he';obtain⟨rfl,aAB⟩:=aAB;rw[he] at vx;rw[he'] at vy;generalize hcv:act.eval x=cv at vx;generalize hcu:act.eval y=cu at vy;cases vx;cases vy;exact⟨_,_,by simp[execOp,hop,resolve,invoke,builtin,Builtin.max_,Builtin.max2,hcv,hcu];rfl, .int _ _,aAB⟩
   exact aAB.elim
  simp at hl
 case h_23 x xt t hop=>
  split at hl
  ·simp at hl
  ·rename_i d z hd1 hd hz;obtain⟨vz,hvz,hl⟩:=Ka.1 hl;obtain⟨lx,hx,rfl⟩:=Kb.1 hl;obtain⟨i,hi,hz⟩:=Ka.1 hz;have vx:=aG hx hs;have hzr:=dU hvz K;have hzv:(zeroValue t).run P K.w= .ok z K.w:=by simp[zeroValue,typeInfo,hi,hz]
   have two:∀(v:V) (cv:Value) (b:Bool),VR K v cv→VR K (.tup [v, .bool b]) (.tuple #[cv, .bool b]):=fun v cv b h=> .tup _ _ rfl fun i hi=>by
    match i,hi with
    |0,_=>exact h
    |1,_=>exact .bool b
   simp only[aW.sem] at aAB;split at aAB
   ·rename_i t' v he;rw[he] at vx;generalize hcv:act.eval x=cv at vx;cases vx with
    |iface _ _ cv h=>
     by_cases e:t'=t
     ·subst e;simp only[if_true,decide_true] at aAB;refine⟨_,_,?_,two _ _ true h,aAB⟩;simp only[execOp,hop,hcv,KK,Kd,run_underlying hd,Kc];cases d<;>first|(simp;done)|(exfalso;exact hd1 _ hd)|(exfalso;exact hd1 _ rfl)
     simp only[if_neg e,decide_eq_false e] at aAB;refine⟨_,_,?_,two _ _ false hzr,aAB⟩;simp only[execOp,hop,hcv,KK,Kd,run_underlying hd,Kc];cases d<;>first|(simp[e,hzv];done)|(exfalso;exact hd1 _ hd)|(exfalso;exact hd1 _ rfl)
   ·rename_i he;rw[he] at vx;generalize hcv:act.eval x=cv at vx;cases vx;refine⟨_,_,?_,two _ _ false hzr,aAB⟩;simp only[execOp,hop,hcv,KK,Kd,run_underlying hd,Kc];cases d<;>first|(simp[hzv];done)|(exfalso;exact hd1 _ hd)|(exfalso;exact hd1 _ rfl)
   exact aAB.elim
  simp at hl
 case h_24 x xt t hop=>
  split at hl
  ·simp at hl
  ·rename_i d hd1 hd;obtain⟨lx,hx,rfl⟩:=Kb.1 hl;have vx:=aG hx hs;simp only[aW.sem] at aAB;split at aAB
   ·rename_i t' v he;obtain⟨rfl,aAB⟩:=aAB;rw[he] at vx;generalize hcv:act.eval x=cv at vx;cases vx with
    |iface _ _ cv h=>
     refine⟨_,_,?_,h,aAB⟩;simp only[execOp,hop,hcv,KK,Kd,run_underlying hd,Kc];cases d<;>first|(simp;done)|(exfalso;exact hd1 _ hd)|(exfalso;exact hd1 _ rfl)
   exact aAB.elim
  simp at hl
 case h_25 t x i ok hop=>
  split at hl
  ·rename_i kt et hu;obtain⟨kS,hkS,hl⟩:=Ka.1 hl;obtain⟨ks,hks,hl⟩:=Ka.1 hl;obtain⟨z,hz,hl⟩:=Ka.1 hl;obtain⟨zv,hzv,hl⟩:=Ka.1 hl;obtain⟨lx,hx,hl⟩:=Ka.1 hl;obtain⟨li,hi,rfl⟩:=Kb.1 hl;have vx:=aG hx hs;have vi:=aG hi hs;obtain⟨it,hit,hz⟩:=Ka.1 hz;have hzr:(zeroValue et).run P K.w= .ok z K.w:=by simp[zeroValue,typeInfo,hit,hz]
   have vz:=dU hzv K;have two:∀(v:V) (cv:Value) (b:Bool),VR K v cv→VR K (.tup [v, .bool b]) (.tuple #[cv, .bool b]):=fun v cv b h=> .tup _ _ rfl fun i hi=>by
    match i,hi with
    |0,_=>exact h
    |1,_=>exact .bool b
   simp only[aW.sem] at aAB;obtain⟨hf,aAB⟩:=aAB;have hck:∀em,(Kw em 10000 kt (act.eval i)).run P K.w= .ok () K.w:=fun em=>iJ K.w em hks hkS ZM vi hf;split at aAB
   ·rename_i he;rw[he] at vx;generalize hcv:act.eval x=cv at vx;cases vx;have hfk:=dD (es:=[]) (ces:=[]) (r:=none) K.w hks hkS ZM vi ⟨rfl,fun i hi=>by simp at hi⟩ rfl;cases ok
    ·exact⟨z,zv,by simp[execOp,hop,KG,hcv,run_underlying hu,hck,hfk,hzr],vz,aAB⟩
    exact⟨_,_,by simp[execOp,hop,KG,hcv,run_underlying hu,hck,hfk,hzr],two _ _ false vz,aAB⟩
   ·rename_i n he;split at aAB
    ·rename_i es c hn;split at aAB
     ·rename_i r hfd;rw[he] at vx;generalize hcv:act.eval x=cv at vx;cases vx;have hb:=hr.blk n _ hn;cases hb with
      |mp _ _ ces hh hl hv=>
       have hm:MEs K es ces.toList:=⟨by simpa using hl,fun i hi=>by simpa [Kg,Ke] using hv i hi⟩;have hfk:=dD K.w hks hkS ZM vi hm hfd;cases r with
       |none=>
        cases ok
        ·exact⟨z,zv,by simp[execOp,hop,KG,hcv,run_underlying hu,cM hh,hck,hfk,hzr],vz,aAB⟩
        exact⟨_,_,by simp[execOp,hop,KG,hcv,run_underlying hu,cM hh,hck,hfk,hzr],two _ _ false vz,aAB⟩
       |some j=>
        obtain⟨hj,_⟩:=wG hfd;have hvj:=(hm.2 j hj).2.1;cases ok
        ·exact⟨_,_,by simp[execOp,hop,KG,hcv,run_underlying hu,cM hh,hck,hfk],hvj,aAB⟩
        exact⟨_,_,by simp[execOp,hop,KG,hcv,run_underlying hu,cM hh,hck,hfk],two _ _ true hvj,aAB⟩
     exact aAB.elim
    exact aAB.elim
   exact aAB.elim
  simp at hl
 case h_26 t x i hop=>
  split at hl
  ·rename_i hu;obtain⟨lx,hx,hl⟩:=Ka.1 hl;obtain⟨li,hi,rfl⟩:=Kb.1 hl;have vx:=aG hx hs;have vi:=aG hi hs;simp only[aW.sem] at aAB;split at aAB
   ·rename_i e1 _ _;cases e1
   ·rename_i s ik j _ he hj;obtain⟨h0,h1,hR⟩:=aAB;rw[he] at vx;rw[hj] at vi;generalize hcv:act.eval x=cv at vx;generalize hci:act.eval i=ci at vi;cases vi;cases vx;have hlt:j.toNat<s.data.size:=by have:s.size=s.data.size:=rfl;omega
    have hg:s[j.toNat]?=some (s.data.toList.getD j.toNat 0):=by
     rw[Ke,Ki (by simpa using hlt)];exact getElem?_pos s j.toNat hlt
    refine⟨_,_,?_, .int .u8 _,hR⟩;simp only[execOp,hop,hcv,hci,Qt,asIntOf,Kd,Kf,Kc,run_underlying hu,if_pos h0,hg]
   exact aAB.elim
  ·rename_i n e hu;split at hl
   ·rename_i hk;obtain⟨lx,hx,hl⟩:=Ka.1 hl;obtain⟨li,hi,rfl⟩:=Kb.1 hl;have vx:=aG hx hs;have vi:=aG hi hs;simp only[aW.sem] at aAB;split at aAB
    ·rename_i n' cs ik j en he hj;injection en with en;subst en;obtain⟨h0,⟨h1,h2⟩,hR⟩:=aAB;rw[he] at vx;rw[hj] at vi;generalize hcv:act.eval x=cv at vx;generalize hci:act.eval i=ci at vi;cases vi;cases vx with
     |agg _ ccs hlen hvs=>
      have hjl:j.toNat<ccs.size:=or;have hp:=rH hk K.w ccs (fun q=>ccs.getD q Kh) (j.toNat*Sh.leaf.size) (by simp only[Sh.size];omega) (fun q _=>rfl);simp only[Sh.size,Qy,aAa,KP] at hp;refine⟨_,_,?_,hvs j.toNat or,hR⟩;simp only[execOp,hop,hcv,hci,Qt,asIntOf,Kd,Kf,Kc,run_underlying hu,if_pos (And.intro h0 h1),eN hk,hp,aAa,Sh.size,Qy,KP]
    ·rename_i e1 _ _;cases e1
    exact aAB.elim
   simp at hl
  simp at hl
 case h_27=>simp at hl
end
def Ker.aAH(K:Ker)(a b m:Nat):Ker:=
 {K with mu:=fun n=>if n=a then b else K.mu n,imm:=fun c=>if c=b then m else K.imm c,tp:=fun n=>if n=a then m else K.tp n,live:=fun n=>n=a∨K.live n}
theorem Ker.aAT(K:Ker){a b m:Nat}(ha:¬K.live a)(hm:K.imm b≤m):K.le (K.aAH a b m) where
 live n hn:= .inr hn
 mu n hn:=by have:n≠a:=fun e=>ha (e▸hn);simp[Ker.aAH,this]
 tp n hn:=by have:n≠a:=fun e=>ha (e▸hn);simp[Ker.aAH,this]
 fro:=rfl
 imm c _:=by
  show _≤(if c=b then m else K.imm c);split
  ·rename_i e;subst e;exact hm
  exact Ko _
 cell _ _ _ _:=rfl
 shape _ _:=rfl
 below:=pN.refl _ _
theorem Hp.aDP(h:Hp)(n:Nat):(h.del n).le h:=fun m b e=>by
 unfold Hp.del at e;split at e
 ·simp at e
 exact e
theorem Rel.aAH{K:Ker}{h:Hp}(r:Rel K h){n:Nat}{b0:Blk}(hn:h n=some b0){a m:Nat}(ha:¬K.live a)(hm:K.imm (K.mu n)≤m){b1:Blk}(hb:BR (K.aAH a (K.mu n) m) a b1):Rel (K.aAH a (K.mu n) m) ((h.del n).set a b1):=by
 have hle:=K.aAT (b:=K.mu n) ha hm;have hd:∀x bb,(h.del n) x=some bb→x≠n∧h x=some bb:=fun x bb e=>by
  unfold Hp.del at e;split at e
  ·simp at e
  rename_i hx;exact⟨hx,e⟩
 have aC5:∀x bb,(h.del n) x=some bb→K.mu x≠K.mu n:=fun x bb e em=>(hd x bb e).1 (r.inj x n bb b0 (hd x bb e).2 hn em);have aPc:(K.aAH a (K.mu n) m).mu a=K.mu n:=by simp[Ker.aAH]
 refine⟨?_,?_,?_,?_,r.size.re rfl rfl⟩
 ·intro x bb e;unfold Hp.set at e;split at e
  ·rename_i hx;exact .inl hx
  exact .inr (r.lt x bb (hd x bb e).2)
 ·intro x bb e;unfold Hp.set at e;split at e
  ·rename_i hx;rw[hx,aPc];exact r.base n b0 hn
  rw[hle.mu x (r.lt x bb (hd x bb e).2)];exact r.base x bb (hd x bb e).2
 ·intro x bb e;unfold Hp.set at e;split at e
  ·rename_i hx;injection e with e;rw[hx,←e];exact hb
  refine(r.blk x bb (hd x bb e).2).mono hle (r.lt x bb (hd x bb e).2) rfl ?_;show(if K.mu x=K.mu n then m else K.imm (K.mu x))=_;rw[if_neg (aC5 x bb e)]
 intro x y b1' b2' e1 e2 em;unfold Hp.set at e1 e2;split at e1<;>split at e2
 ·omega
 ·rename_i h1 h2;rw[h1,aPc,hle.mu y (r.lt y b2' (hd y b2' e2).2)] at em;exact absurd em.symm (aC5 y b2' e2)
 ·rename_i h1 h2;rw[h2,aPc,hle.mu x (r.lt x b1' (hd x b1' e1).2)] at em;exact absurd em (aC5 x b1' e1)
 rw[hle.mu x (r.lt x b1' (hd x b1' e1).2),hle.mu y (r.lt y b2' (hd y b2' e2).2)] at em;exact r.inj x y b1' b2' (hd x b1' e1).2 (hd y b2' e2).2 em
def eV(P:Program)(o:Oper)(act:Act)(K:Ker)(a:Nat)(R:V→Hp→Prop):Prop:=
 ∃nx cv K' v h',(execOp act.eval o).run P K.w= .ok nx K'.w∧(nx= .value cv∨nx= .skip∧cv=Kh)∧K.le K'∧(∀n,K'.live n→K.live n∨n=a)∧VR K' v cv∧Rel K' h'∧R v h'
theorem xN.toM{P:Program}{o:Oper}{act:Act}{K:Ker}{a:Nat}{h:Hp}{R:V→Hp→Prop}(hr:Rel K h)(y:xN P o act K fun v=>R v h):eV P o act K a R:=by
 obtain⟨cv,v,h1,h2,h3⟩:=y;exact⟨_,cv,K,v,h,h1, .inl rfl, .refl K,fun n hn=> .inl hn,h2,hr,h3⟩
theorem tL{P:Program}{K:Ker}{h:Hp}(hr:Rel K h){a:Nat}(ha:¬K.live a){k:Sh}{v:V}{cv:Value}(hv:VR K v cv)(hf:v.fits k=true)(e:TypeId):
 ∃K',(newVar e cv).run P K.w= .ok ⟨K.w.heap.size,0,none⟩ K'.w∧K.le K'∧(∀n,K'.live n→K.live n∨n=a)∧VR K' (.ptr a k 0 0) (.pointer (some ⟨K.w.heap.size,0,none⟩))∧Rel K' (h.set a (.arr k [v])):=by
 obtain⟨c1,c2,c3,c4⟩:=hv.cells hf;have hle:=K.aAu a ha (.cells cv.cells e) 0;have hmu:(K.push a (.cells cv.cells e) 0).mu a=K.w.heap.size:=by simp[Ker.push]
 refine⟨K.push a (.cells cv.cells e) 0,rfl,hle,fun n hn=>hn.symm,?_,?_⟩
 ·have:=VR.ptr (K:=K.push a (.cells cv.cells e) 0) a k 0 0 (.inl rfl);rw[hmu] at this;simpa using this
 refine hr.set_push ha _ _ (.arr k [v] cv.cells e ?_ ?_ ?_ ?_ ?_)
 ·rw[hmu];exact cT _ _
 ·simp[c2]
 ·rw[hmu];simp[Ker.push]
 ·simpa using hf
 intro i hi j hj;have:i=0:=by simpa using hi
 subst this;simpa using(c3 j hj).mono hle
theorem kX{K:Ker}{h:Hp}(hr:Rel K h){a:Nat}(ha:¬K.live a){k:Sh}{es:List V}(hf:∀e∈es,e.fits k=true)(c:Array Value)(e:TypeId)(cap:Nat)(hcap:es.length≤cap)(hsz:cap*k.size≤c.size)
 (hv:∀i,i<es.length→∀j,j<k.size→VR K ((es.getD i V.undef).cell j) (c.getD (i*k.size+j) Kh)):
 ∃K',K'.w=K.w.alloc (.cells c e)∧K.le K'∧(∀n,K'.live n→K.live n∨n=a)∧VR K' (.sl k (.tok a) es) (.slice (some ⟨K.w.heap.size,0,none⟩) es.length cap)∧Rel K' (h.set a .tip):=by
 have hle:=K.aAu a ha (.cells c e) (es.length*k.size);have hmu:(K.push a (.cells c e) (es.length*k.size)).mu a=K.w.heap.size:=by simp[Ker.push]
 have hlen:es.length*k.size≤cap*k.size:=Ku _ hcap;refine⟨K.push a (.cells c e) (es.length*k.size),rfl,hle,fun n hn=>hn.symm,?_,?_⟩
 ·refine .sl k (.tok a) es K.w.heap.size 0 cap (fun j=>c.getD j Kh) ?_ hf ?_ ?_ (fun i hi j hj=>(hv i hi j hj).mono hle) hcap Zm Zm ?_
  ·show _<(K.w.alloc _).heap.size;rw[vL];omega
  ·intro j hj;show(K.w.alloc _).cell? _=_;simp only[KY,cT,Qj];rw[Kg,Ks or];rfl
  ·intro j hj;refine .inr ?_;show 0+j<(if K.w.heap.size=K.w.heap.size then es.length*k.size else _);rw[if_pos rfl];omega
  intro n hn;injection hn with hn;subst hn;refine⟨.inl rfl, .inr ⟨hmu,?_,e,c.size,?_,by simpa using hsz⟩⟩
  ·simp[Ker.push]
  show(K.w.alloc _).shape? _=_;simp only[KB,cT]
 refine hr.set_push ha _ _ (.tip c e ?_ ?_ ?_)
 ·rw[hmu];exact cT _ _
 ·rw[hmu];simp[Ker.push]
 have:(K.push a (.cells c e) (es.length*k.size)).tp a=es.length*k.size:=by simp[Ker.push]
 omega
end Go.Proofs.YtlhedpgobaellaaGreatDoor
