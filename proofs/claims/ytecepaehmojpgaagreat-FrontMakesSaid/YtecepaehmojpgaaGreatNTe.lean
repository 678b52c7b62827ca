/-
Texts of this proof,one behind the other. No conditions.
-/
import Derived.Test.YtecepaehmojpgaaGreatNe
open List renaming getD_eq_getElem?_getD→Ka
open Nat renaming zero_add→Kb,zero_le→Kc
set_option linter.unusedSimpArgs false
set_option linter.unusedVariables false
set_option linter.unusedSectionVars false
set_option maxHeartbeats 8000000
namespace Go.Proofs.YtecepaehmojpgaaGreat
open Go.RowKit
theorem fY.set{K:Ker}{sl:List V}{a:Act}(r:fY K sl a){t:Nat}{v:V}(hv:VR K v (a.tmps.getD t Go.undef)):fY K (sl.set t v) a:=by
 refine⟨by rw[List.length_set];exact r.1,fun u=>?_⟩;by_cases e:u=t
 ·subst e;by_cases hl:u<sl.length
  ·rw[Ka,List.getElem?_set_self hl];exact hv
  have:=r.2 u;rw[List.set_eq_of_length_le or];exact this
 have:=r.2 u;rw[Ka] at this⊢;rw[List.getElem?_set_ne (fun h=>e h.symm)];exact this
theorem xc{K:Ker}{h:Hp}(hr:Rel K h){n a i o:Nat}{k:Sh}{es:List V}{cv:Value}(hn:h n=some (.arr k es))(ha:¬K.live a)(hv:VR K (.ptr n k i o) cv):
 ∃K',K'.w=K.w∧K.le K'∧(∀m,K'.live m→K.live m∨m=a)∧VR K' (.ept k es i o) cv∧Rel K' (h.del n):=by
 have hb:=hr.blk n _ hn;cases hb with
 |arr _ _ c T hh hcs aBC aAH hcv=>
  cases hv with
  |ptr _ _ _ _ hl=>
   have hblk:K.mu n<K.w.heap.size:=by
    rcases Nat.lt_or_ge (K.mu n) K.w.heap.size with hlt|hge
    ·exact hlt
    rw[Array.getElem?_eq_none hge] at hh;exact absurd hh Zm
   have hle:K.le (K.aAG a (K.mu n) (es.length*k.size)):=K.aAf ha (by rw[aBC];exact Kc _);have hmu:(K.aAG a (K.mu n) (es.length*k.size)).mu a=K.mu n:=by simp[Ker.aAG]
   have aAS:Rel (K.aAG a (K.mu n) (es.length*k.size)) ((h.del n).set a .tip):=hr.aAG hn ha (by rw[aBC];exact Kc _) (.tip c T (by rw[hmu];exact hh) (by simp[Ker.aAG]) (by simp only[Ker.aAG,if_true];exact hcs));refine⟨K.aAG a (K.mu n) (es.length*k.size),rfl,hle,fun m hm=>hm.symm,?_,aAS.weaken fun m b e=>?_⟩
   ·have:=VR.ept (K:=K.aAG a (K.mu n) (es.length*k.size)) k es i o (K.mu n) 0 (fun j=>c.getD j Go.undef) hblk aAH
     (fun j hj=>by
       show K.w.cell? _=_;simp only[World.cell?,hh,Kb];rw[Array.getD_eq_getD_getElem?,Array.getElem?_eq_getElem or];rfl)
     (fun j hj=> .inr (by simp only[Ker.aAG,if_true];omega))
     (fun i hi j hj=>(hcv i hi j hj).mono hle)
    rwa [Kb] at this
   unfold Hp.del at e;unfold Hp.set Hp.del;by_cases e1:m=n
   ·rw[if_pos e1] at e;cases e
   rw[if_neg e1] at e;have hma:m≠a:=fun e2=>ha (e2▸hr.lt m b e);rw[if_neg hma,if_neg e1];exact e
theorem Bf{sl:List V}{h:Hp}{nx t n i o:Nat}{k:Sh}{es:List V}(ht:sl.getD t V.undef= .ptr n k i o)(hn:h n=some (.arr k es)):
 ae ⟨sl,h,nx⟩ ⟨sl.set t (.ept k es i o),h.del n,nx+1⟩:=by
 intro K0 K nx0 a r;have hv:=r.aAF.2 t;rw[ht] at hv;have hfr:¬K.live nx:=fun hh=>Nat.lt_irrefl _ (r.live nx hh).1;obtain⟨K',q1,q2,q3,q4,q5⟩:=xc r.rel hn hfr hv;refine⟨K',q1,r.le.trans q2,(r.aAF.mono q2).set q4,q5,fun m hm=>?_,Nat.le_succ_of_le r.nx,by rw[q1];exact r.defers⟩;rcases q3 m hm with hm|rfl
 ·have:=r.live m hm;exact⟨Nat.lt_succ_of_lt this.1,this.2⟩
 exact⟨Nat.lt_succ_self _, .inr r.nx⟩
end Go.Proofs.YtecepaehmojpgaaGreat
