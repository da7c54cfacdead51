/-
  Part 5 of 9.
-/
import Derived.Test.YtmkkanmkjfnpdaaMq4
import Derived.Test.YtmkkanmkjfnpdaaMq3
import Derived.Test.YtmkkanmkjfnpdaaMq2
set_option linter.unusedVariables false
set_option linter.unusedSimpArgs false
namespace Go.PB
variable {P:Program} {e:Env} {L:List HProp} {ty:TypeId}
def thCells (cv:Value) (t:Mach.Th) (av:Value):List Value:=[cv,.int .i64 (t.call:Nat),.int .i64 (t.pc:Nat)]++((List.range 24).map (fun i=>num (t.r i))++[av,.bool t.over])
theorem thCells_len {cv av:Value} {t:Mach.Th}:(thCells cv t av).length=29:=by simp [thCells]
theorem thCells_reg {cv av:Value} {t:Mach.Th} {i:Nat} (h:i<24):(thCells cv t av)[3+i]?=some (num (t.r i)):=by
 unfold thCells
 rw [List.getElem?_append_right (by simp),List.getElem?_append_left (by simp;omega)]
 simp [h]
theorem thCells_set {cv av:Value} {t:Mach.Th} {a v:Nat} (h:a<24):(thCells cv t av).set (3+a) (num v)=thCells cv { t with r:=upd t.r a v } av:=by
 unfold thCells
 rw [List.set_append_right _ _ (by simp),List.set_append_left _ _ (by simp;omega)]
 congr 2
 apply List.ext_getElem?
 intro i
 rw [List.getElem?_set]
 simp only [List.length_cons,List.length_nil,List.length_map,List.length_range,List.getElem?_map]
 by_cases e:3+a-(0+1+1+1)=i
 ·obtain rfl:i=a:=by omega
  simp [h,upd]
 ·rw [if_neg e]
  by_cases hi:i<24
  ·simp [hi,upd,show ¬ i=a by omega]
  ·simp [hi]
theorem rd_reg {tb:Nat} {cv av:Value} {t:Mach.Th} {F:List HProp} (hh:Has L (arr tb 0 (thCells cv t av)) F) {i:Nat} (h:i<24):Rd L tb (3+i) (num (t.r i)) :=
 Rd.of hh (Rd.row (k:=3+i) (thCells_reg h) (by omega))
end Go.PB
namespace Go.Proofs.Ytmkkanmkjfnpdaa
open Go Go.PB
attribute [local irreducible] Mo Bin Eql Tr Wo Ap
variable {B:Hand} [Lets B] {L F:List HProp} {x:B.X}
set_option maxHeartbeats 4000000 in
theorem own_reg_tr {tb:Nat} {w cv av:Value} {t:Mach.Th} {i:Mach.In} (hop:6≤i.op∧i.op≤16) (hi:i.ok=true) (hr:∀ j,t.r j<18446744073709551616) (hpc:t.pc<1000000) (hh:Has L (arr tb 0 (thCells cv t av)) F) :
  Tr Try.prog B 92 [.pointer (some ⟨tb,0,none⟩),w,.agg (inC i).toArray] L x fun v L' x'=>v=.tuple #[]∧L'=arr tb 0 (thCells cv (Mach.own t i) av)::F∧x'=x:=by
 refine tr_star _ (fun h s=>hh.star s) ?_
 clear hh
 refine Tr.post (R:=fun v L' x'=>∃ c,v=.tuple #[]∧L'=c::arr tb 0 (thCells cv (Mach.own t i) av)::F∧x'=x) ?_ (by rintro v L' x' ⟨c,rfl,rfl,rfl⟩;exact ⟨_,⟨rfl,rfl,rfl⟩,fun h s=>star_drop s⟩)
 obtain ⟨op,on,a,b,c,d,n⟩:=i
 simp only [Mach.In.ok,Bool.and_eq_true,decide_eq_true_eq,Bool.or_eq_true,Bool.not_eq_true',decide_eq_false_iff_not] at hi hop
 obtain ⟨⟨⟨⟨⟨⟨⟨⟨⟨⟨_,_⟩,ha⟩,hb⟩,hc⟩,hd⟩,hon⟩,hn⟩,_⟩,_⟩,hsh⟩:=hi
 have hops:op=6∨op=7∨op=8∨op=9∨op=10∨op=11∨op=12∨op=13∨op=14∨op=15∨op=16:=by omega
 have hregs:∀ {e:HProp},∀ j,j<24→Rd (e::arr tb 0 (thCells cv { t with pc:=t.pc+1 } av)::F) tb (3+j) (num (t.r j)):=fun {e} j h=>rd_reg (t:={ t with pc:=t.pc+1 }) (.there .here) h
 have vb:=hr b
 have vc:=hr c
 rcases hops with rfl | rfl | rfl | rfl | rfl | rfl | rfl | rfl | rfl | rfl | rfl
 ·refine tr_of_body Try.func92 rfl Try.ntmps92 (by simp) fun um Q _ hQ=>?_
  simp only [argE,Nat.zero_add,Nat.reduceAdd]
  repeat (first | (apply wo_mo;apply mo_box;exact rfl;exact trivial) | refine we_seq ?_ | (refine wR ?_;try simp only [oS]))
  rintro v' L' ⟨xb,rfl,rfl⟩
  repeat (first | refine wS ?_ | refine weqlT ?_ | refine we_seq ?_ | (refine wR ?_;try simp only [oS]) | refine wo_nil ?_ | refine wM ?_ | refine wA ?_ | refine wN ?_ | refine wD ?_ | refine wL ?_ | refine wadd ?_ | refine wT ?_ | refine we_block ?_)
  refine we_ent (arr xb 0 (inC ⟨6,on,a,b,c,d,n⟩)::arr tb 0 (thCells cv { t with pc:=t.pc+1 } av)::F) .refl ?_
  refine we_draw (List.range' 0 8) (by kernel_rfl) ?_
  have hreg:=@hregs (arr xb 0 (inC ⟨6,on,a,b,c,d,n⟩))
  repeat (first | (apply ap_pure;exact rfl;exact rfl;exact trivial;intro L;apply mo_indexArr1;exact rfl;exact rfl;omega) | refine aM ?_ | refine aN ?_ | refine aD ?_ | refine aL ?_)
  refine ap_loud rfl rfl rfl rfl rfl trivial (mo_store rfl rfl rfl (Wt.row0 (k:=3+a) (vs:=thCells cv { t with pc:=t.pc+1 } av) (.there .here) (by rw [thCells_len];omega))) ?_
  rintro v' L' ⟨rfl,rfl⟩
  refine ap_end ?_
  refine at_ent (arr xb 0 (inC ⟨6,on,a,b,c,d,n⟩)::arr tb 0 (thCells cv (Mach.own t ⟨6,on,a,b,c,d,n⟩) av)::F) (ent_eq (by rw [show (Value.int .u64 (n:Int))=num (n%18446744073709551616) by rw [Nat.mod_eq_of_lt hn];rfl,thCells_set ha];rfl)) ?_
  skip
  (first | refine or0 Try.func92 Try.results92 hQ ?_ | refine on0 Try.func92 Try.results92 hQ ?_)
  exact ⟨_,rfl,rfl,rfl⟩
 ·refine tr_of_body Try.func92 rfl Try.ntmps92 (by simp) fun um Q _ hQ=>?_
  simp only [argE,Nat.zero_add,Nat.reduceAdd]
  repeat (first | (apply wo_mo;apply mo_box;exact rfl;exact trivial) | refine we_seq ?_ | (refine wR ?_;try simp only [oS]))
  rintro v' L' ⟨xb,rfl,rfl⟩
  repeat (first | refine wS ?_ | refine weqlT ?_ | refine weqlF ?_ | refine we_seq ?_ | (refine wR ?_;try simp only [oS]) | refine wo_nil ?_ | refine wM ?_ | refine wA ?_ | refine wN ?_ | refine wD ?_ | refine wL ?_ | refine wadd ?_ | refine wT ?_ | refine wF ?_ | refine we_block ?_)
  refine we_ent (arr xb 0 (inC ⟨7,on,a,b,c,d,n⟩)::arr tb 0 (thCells cv { t with pc:=t.pc+1 } av)::F) .refl ?_
  refine we_draw (List.range' 0 12) (by kernel_rfl) ?_
  have hreg:=@hregs (arr xb 0 (inC ⟨7,on,a,b,c,d,n⟩))
  repeat (first | (apply ap_pure;exact rfl;exact rfl;exact trivial;intro L;apply mo_indexArr1;exact rfl;exact rfl;omega) | (apply ap_read;exact rfl;exact rfl;exact trivial;apply mo_load;exact rfl;exact hreg _ hb) | refine aM ?_ | refine aN ?_ | refine aD ?_ | refine aL ?_)
  refine ap_loud rfl rfl rfl rfl rfl trivial (mo_store rfl rfl rfl (Wt.row0 (k:=3+a) (vs:=thCells cv { t with pc:=t.pc+1 } av) (.there .here) (by rw [thCells_len];omega))) ?_
  rintro v' L' ⟨rfl,rfl⟩
  refine ap_end ?_
  refine at_ent (arr xb 0 (inC ⟨7,on,a,b,c,d,n⟩)::arr tb 0 (thCells cv (Mach.own t ⟨7,on,a,b,c,d,n⟩) av)::F) (ent_eq (by rw [show num (t.r b)=num (t.r b%18446744073709551616) by rw [Nat.mod_eq_of_lt vb],thCells_set ha];rfl)) ?_
  skip
  (first | refine or0 Try.func92 Try.results92 hQ ?_ | refine on0 Try.func92 Try.results92 hQ ?_)
  exact ⟨_,rfl,rfl,rfl⟩
 ·refine tr_of_body Try.func92 rfl Try.ntmps92 (by simp) fun um Q _ hQ=>?_
  simp only [argE,Nat.zero_add,Nat.reduceAdd]
  repeat (first | (apply wo_mo;apply mo_box;exact rfl;exact trivial) | refine we_seq ?_ | (refine wR ?_;try simp only [oS]))
  rintro v' L' ⟨xb,rfl,rfl⟩
  repeat (first | refine wS ?_ | refine weqlT ?_ | refine weqlF ?_ | refine we_seq ?_ | (refine wR ?_;try simp only [oS]) | refine wo_nil ?_ | refine wM ?_ | refine wA ?_ | refine wN ?_ | refine wD ?_ | refine wL ?_ | refine wadd ?_ | refine wT ?_ | refine wF ?_ | refine we_block ?_)
  refine we_ent (arr xb 0 (inC ⟨8,on,a,b,c,d,n⟩)::arr tb 0 (thCells cv { t with pc:=t.pc+1 } av)::F) .refl ?_
  refine we_draw (List.range' 0 22) (by kernel_rfl) ?_
  have hreg:=@hregs (arr xb 0 (inC ⟨8,on,a,b,c,d,n⟩))
  repeat (first | (apply ap_pure;exact rfl;exact rfl;exact trivial;intro L;apply mo_indexArr1;exact rfl;exact rfl;omega) | (apply ap_read;exact rfl;exact rfl;exact trivial;apply mo_load;exact rfl;exact hreg _ hb) | (apply ap_read;exact rfl;exact rfl;exact trivial;apply mo_load;exact rfl;exact hreg _ hc) | (apply ap_pure;exact rfl;exact rfl;exact trivial;intro L;apply mo_bin;exact rfl;exact rfl;apply bin_add;exact u64_add) | refine aM ?_ | refine aN ?_ | refine aD ?_ | refine aL ?_)
  refine ap_loud rfl rfl rfl rfl rfl trivial (mo_store rfl rfl rfl (Wt.row0 (k:=3+a) (vs:=thCells cv { t with pc:=t.pc+1 } av) (.there .here) (by rw [thCells_len];omega))) ?_
  rintro v' L' ⟨rfl,rfl⟩
  refine ap_end ?_
  refine at_ent (arr xb 0 (inC ⟨8,on,a,b,c,d,n⟩)::arr tb 0 (thCells cv (Mach.own t ⟨8,on,a,b,c,d,n⟩) av)::F) (ent_eq (by rw [show Value.int .u64 (((((t.r b+t.r c)%18446744073709551616)+n)%18446744073709551616:Nat):Int)=num ((t.r b+t.r c+n)%18446744073709551616) by unfold num;congr 1;omega,thCells_set ha];rfl)) ?_
  skip
  (first | refine or0 Try.func92 Try.results92 hQ ?_ | refine on0 Try.func92 Try.results92 hQ ?_)
  exact ⟨_,rfl,rfl,rfl⟩
 ·refine tr_of_body Try.func92 rfl Try.ntmps92 (by simp) fun um Q _ hQ=>?_
  simp only [argE,Nat.zero_add,Nat.reduceAdd]
  repeat (first | (apply wo_mo;apply mo_box;exact rfl;exact trivial) | refine we_seq ?_ | (refine wR ?_;try simp only [oS]))
  rintro v' L' ⟨xb,rfl,rfl⟩
  repeat (first | refine wS ?_ | refine weqlT ?_ | refine weqlF ?_ | refine we_seq ?_ | (refine wR ?_;try simp only [oS]) | refine wo_nil ?_ | refine wM ?_ | refine wA ?_ | refine wN ?_ | refine wD ?_ | refine wL ?_ | refine wadd ?_ | refine wT ?_ | refine wF ?_ | refine we_block ?_)
  refine we_ent (arr xb 0 (inC ⟨9,on,a,b,c,d,n⟩)::arr tb 0 (thCells cv { t with pc:=t.pc+1 } av)::F) .refl ?_
  refine we_draw (List.range' 0 19) (by kernel_rfl) ?_
  have hreg:=@hregs (arr xb 0 (inC ⟨9,on,a,b,c,d,n⟩))
  repeat (first | (apply ap_pure;exact rfl;exact rfl;exact trivial;intro L;apply mo_indexArr1;exact rfl;exact rfl;omega) | (apply ap_read;exact rfl;exact rfl;exact trivial;apply mo_load;exact rfl;exact hreg _ hb) | (apply ap_read;exact rfl;exact rfl;exact trivial;apply mo_load;exact rfl;exact hreg _ hc) | (apply ap_pure;exact rfl;exact rfl;exact trivial;intro L;apply mo_bin;exact rfl;exact rfl;apply bin_sub;exact u64_sub vc) | refine aM ?_ | refine aN ?_ | refine aD ?_ | refine aL ?_)
  refine ap_loud rfl rfl rfl rfl rfl trivial (mo_store rfl rfl rfl (Wt.row0 (k:=3+a) (vs:=thCells cv { t with pc:=t.pc+1 } av) (.there .here) (by rw [thCells_len];omega))) ?_
  rintro v' L' ⟨rfl,rfl⟩
  refine ap_end ?_
  refine at_ent (arr xb 0 (inC ⟨9,on,a,b,c,d,n⟩)::arr tb 0 (thCells cv (Mach.own t ⟨9,on,a,b,c,d,n⟩) av)::F) (ent_eq (by rw [show Value.int .u64 (((t.r b+18446744073709551616-t.r c)%18446744073709551616:Nat):Int)=num ((t.r b+18446744073709551616-t.r c)%18446744073709551616) from rfl,thCells_set ha];rfl)) ?_
  skip
  (first | refine or0 Try.func92 Try.results92 hQ ?_ | refine on0 Try.func92 Try.results92 hQ ?_)
  exact ⟨_,rfl,rfl,rfl⟩
 ·refine tr_of_body Try.func92 rfl Try.ntmps92 (by simp) fun um Q _ hQ=>?_
  simp only [argE,Nat.zero_add,Nat.reduceAdd]
  repeat (first | (apply wo_mo;apply mo_box;exact rfl;exact trivial) | refine we_seq ?_ | (refine wR ?_;try simp only [oS]))
  rintro v' L' ⟨xb,rfl,rfl⟩
  repeat (first | refine wS ?_ | refine weqlT ?_ | refine weqlF ?_ | refine we_seq ?_ | (refine wR ?_;try simp only [oS]) | refine wo_nil ?_ | refine wM ?_ | refine wA ?_ | refine wN ?_ | refine wD ?_ | refine wL ?_ | refine wadd ?_ | refine wT ?_ | refine wF ?_ | refine we_block ?_)
  refine we_ent (arr xb 0 (inC ⟨10,on,a,b,c,d,n⟩)::arr tb 0 (thCells cv { t with pc:=t.pc+1 } av)::F) .refl ?_
  refine we_draw (List.range' 0 19) (by kernel_rfl) ?_
  have hreg:=@hregs (arr xb 0 (inC ⟨10,on,a,b,c,d,n⟩))
  repeat (first | (apply ap_pure;exact rfl;exact rfl;exact trivial;intro L;apply mo_indexArr1;exact rfl;exact rfl;omega) | (apply ap_read;exact rfl;exact rfl;exact trivial;apply mo_load;exact rfl;exact hreg _ hb) | (apply ap_read;exact rfl;exact rfl;exact trivial;apply mo_load;exact rfl;exact hreg _ hc) | (apply ap_pure;exact rfl;exact rfl;exact trivial;intro L;apply mo_bin;exact rfl;exact rfl;apply bin_mul;exact u64_mul) | refine aM ?_ | refine aN ?_ | refine aD ?_ | refine aL ?_)
  refine ap_loud rfl rfl rfl rfl rfl trivial (mo_store rfl rfl rfl (Wt.row0 (k:=3+a) (vs:=thCells cv { t with pc:=t.pc+1 } av) (.there .here) (by rw [thCells_len];omega))) ?_
  rintro v' L' ⟨rfl,rfl⟩
  refine ap_end ?_
  refine at_ent (arr xb 0 (inC ⟨10,on,a,b,c,d,n⟩)::arr tb 0 (thCells cv (Mach.own t ⟨10,on,a,b,c,d,n⟩) av)::F) (ent_eq (by rw [show Value.int .u64 (((t.r b*t.r c)%18446744073709551616:Nat):Int)=num ((t.r b*t.r c)%18446744073709551616) from rfl,thCells_set ha];rfl)) ?_
  skip
  (first | refine or0 Try.func92 Try.results92 hQ ?_ | refine on0 Try.func92 Try.results92 hQ ?_)
  exact ⟨_,rfl,rfl,rfl⟩
 ·by_cases h0:t.r c=0
  ·have hc1:(t.r c:Int)=0:=by omega
   refine tr_of_body Try.func92 rfl Try.ntmps92 (by simp) fun um Q _ hQ=>?_
   simp only [argE,Nat.zero_add,Nat.reduceAdd]
   repeat (first | (apply wo_mo;apply mo_box;exact rfl;exact trivial) | refine we_seq ?_ | (refine wR ?_;try simp only [oS]))
   rintro v' L' ⟨xb,rfl,rfl⟩
   repeat (first | refine wS ?_ | refine weqlT ?_ | refine weqlF ?_ | refine we_seq ?_ | (refine wR ?_;try simp only [oS]) | refine wo_nil ?_ | refine wM ?_ | refine wA ?_ | refine wN ?_ | refine wD ?_ | refine wL ?_ | refine wadd ?_ | refine wT ?_ | refine wF ?_ | refine we_block ?_)
   refine we_ent (arr xb 0 (inC ⟨11,on,a,b,c,d,n⟩)::arr tb 0 (thCells cv { t with pc:=t.pc+1 } av)::F) .refl ?_
   refine we_draw (List.range' 0 7) (by kernel_rfl) ?_
   have hreg:=@hregs (arr xb 0 (inC ⟨11,on,a,b,c,d,n⟩))
   repeat (first | (apply ap_pure;exact rfl;exact rfl;exact trivial;intro L;apply mo_indexArr1;exact rfl;exact rfl;omega) | (apply ap_read;exact rfl;exact rfl;exact trivial;apply mo_load;exact rfl;exact hreg _ hc) | (apply ap_pure;exact rfl;exact rfl;exact trivial;intro L;apply mo_bin;exact rfl;exact rfl;apply bin_eqlT;exact hc1) | refine aM ?_ | refine aN ?_ | refine aD ?_ | refine aL ?_ | refine ap_end ?_)
   repeat (first | refine wT ?_)
   refine we_draw (List.range' 0 6) (by kernel_rfl) ?_
   have hreg:=@hregs (arr xb 0 (inC ⟨11,on,a,b,c,d,n⟩))
   repeat (first | (apply ap_pure;exact rfl;exact rfl;exact trivial;intro L;apply mo_indexArr1;exact rfl;exact rfl;omega) | refine aM ?_ | refine aN ?_ | refine aD ?_ | refine aL ?_)
   refine ap_loud rfl rfl rfl rfl rfl trivial (mo_store rfl rfl rfl (Wt.row0 (k:=3+a) (vs:=thCells cv { t with pc:=t.pc+1 } av) (.there .here) (by rw [thCells_len];omega))) ?_
   rintro v' L' ⟨rfl,rfl⟩
   refine ap_end ?_
   refine at_ent (arr xb 0 (inC ⟨11,on,a,b,c,d,n⟩)::arr tb 0 (thCells cv (Mach.own t ⟨11,on,a,b,c,d,n⟩) av)::F) (ent_eq (by rw [show Value.int .u64 0=num ((if t.r c=0 then 0 else t.r b/t.r c)%18446744073709551616) by rw [if_pos h0];rfl,thCells_set ha];rfl)) ?_
   skip
   (first | refine or0 Try.func92 Try.results92 hQ ?_ | refine on0 Try.func92 Try.results92 hQ ?_)
   exact ⟨_,rfl,rfl,rfl⟩
  ·have hc0:(t.r c:Int)≠0:=by omega
   refine tr_of_body Try.func92 rfl Try.ntmps92 (by simp) fun um Q _ hQ=>?_
   simp only [argE,Nat.zero_add,Nat.reduceAdd]
   repeat (first | (apply wo_mo;apply mo_box;exact rfl;exact trivial) | refine we_seq ?_ | (refine wR ?_;try simp only [oS]))
   rintro v' L' ⟨xb,rfl,rfl⟩
   repeat (first | refine wS ?_ | refine weqlT ?_ | refine weqlF ?_ | refine we_seq ?_ | (refine wR ?_;try simp only [oS]) | refine wo_nil ?_ | refine wM ?_ | refine wA ?_ | refine wN ?_ | refine wD ?_ | refine wL ?_ | refine wadd ?_ | refine wT ?_ | refine wF ?_ | refine we_block ?_)
   refine we_ent (arr xb 0 (inC ⟨11,on,a,b,c,d,n⟩)::arr tb 0 (thCells cv { t with pc:=t.pc+1 } av)::F) .refl ?_
   refine we_draw (List.range' 0 7) (by kernel_rfl) ?_
   have hreg:=@hregs (arr xb 0 (inC ⟨11,on,a,b,c,d,n⟩))
   repeat (first | (apply ap_pure;exact rfl;exact rfl;exact trivial;intro L;apply mo_indexArr1;exact rfl;exact rfl;omega) | (apply ap_read;exact rfl;exact rfl;exact trivial;apply mo_load;exact rfl;exact hreg _ hc) | (apply ap_pure;exact rfl;exact rfl;exact trivial;intro L;apply mo_bin;exact rfl;exact rfl;apply bin_eqlF;exact hc0) | refine aM ?_ | refine aN ?_ | refine aD ?_ | refine aL ?_ | refine ap_end ?_)
   repeat (first | refine wF ?_)
   refine we_draw (List.range' 0 19) (by kernel_rfl) ?_
   have hreg:=@hregs (arr xb 0 (inC ⟨11,on,a,b,c,d,n⟩))
   repeat (first | (apply ap_pure;exact rfl;exact rfl;exact trivial;intro L;apply mo_indexArr1;exact rfl;exact rfl;omega) | (apply ap_read;exact rfl;exact rfl;exact trivial;apply mo_load;exact rfl;exact hreg _ hb) | (apply ap_read;exact rfl;exact rfl;exact trivial;apply mo_load;exact rfl;exact hreg _ hc) | (apply ap_pure;exact rfl;exact rfl;exact trivial;intro L;apply mo_bin;exact rfl;exact rfl;apply bin_quo;exact hc0;exact u64_quo) | refine aM ?_ | refine aN ?_ | refine aD ?_ | refine aL ?_)
   refine ap_loud rfl rfl rfl rfl rfl trivial (mo_store rfl rfl rfl (Wt.row0 (k:=3+a) (vs:=thCells cv { t with pc:=t.pc+1 } av) (.there .here) (by rw [thCells_len];omega))) ?_
   rintro v' L' ⟨rfl,rfl⟩
   refine ap_end ?_
   refine at_ent (arr xb 0 (inC ⟨11,on,a,b,c,d,n⟩)::arr tb 0 (thCells cv (Mach.own t ⟨11,on,a,b,c,d,n⟩) av)::F) (ent_eq (by rw [show Value.int .u64 (((t.r b/t.r c)%18446744073709551616:Nat):Int)=num ((if t.r c=0 then 0 else t.r b/t.r c)%18446744073709551616) by rw [if_neg h0];rfl,thCells_set ha];rfl)) ?_
   skip
   (first | refine or0 Try.func92 Try.results92 hQ ?_ | refine on0 Try.func92 Try.results92 hQ ?_)
   exact ⟨_,rfl,rfl,rfl⟩
 ·refine tr_of_body Try.func92 rfl Try.ntmps92 (by simp) fun um Q _ hQ=>?_
  simp only [argE,Nat.zero_add,Nat.reduceAdd]
  repeat (first | (apply wo_mo;apply mo_box;exact rfl;exact trivial) | refine we_seq ?_ | (refine wR ?_;try simp only [oS]))
  rintro v' L' ⟨xb,rfl,rfl⟩
  repeat (first | refine wS ?_ | refine weqlT ?_ | refine weqlF ?_ | refine we_seq ?_ | (refine wR ?_;try simp only [oS]) | refine wo_nil ?_ | refine wM ?_ | refine wA ?_ | refine wN ?_ | refine wD ?_ | refine wL ?_ | refine wadd ?_ | refine wT ?_ | refine wF ?_ | refine we_block ?_)
  refine we_ent (arr xb 0 (inC ⟨12,on,a,b,c,d,n⟩)::arr tb 0 (thCells cv { t with pc:=t.pc+1 } av)::F) .refl ?_
  refine we_draw (List.range' 0 19) (by kernel_rfl) ?_
  have hreg:=@hregs (arr xb 0 (inC ⟨12,on,a,b,c,d,n⟩))
  repeat (first | (apply ap_pure;exact rfl;exact rfl;exact trivial;intro L;apply mo_indexArr1;exact rfl;exact rfl;omega) | (apply ap_read;exact rfl;exact rfl;exact trivial;apply mo_load;exact rfl;exact hreg _ hb) | (apply ap_read;exact rfl;exact rfl;exact trivial;apply mo_load;exact rfl;exact hreg _ hc) | (apply ap_pure;exact rfl;exact rfl;exact trivial;intro L;apply mo_bin;exact rfl;exact rfl;apply bin_and;exact and_u64' vb vc) | refine aM ?_ | refine aN ?_ | refine aD ?_ | refine aL ?_)
  refine ap_loud rfl rfl rfl rfl rfl trivial (mo_store rfl rfl rfl (Wt.row0 (k:=3+a) (vs:=thCells cv { t with pc:=t.pc+1 } av) (.there .here) (by rw [thCells_len];omega))) ?_
  rintro v' L' ⟨rfl,rfl⟩
  refine ap_end ?_
  refine at_ent (arr xb 0 (inC ⟨12,on,a,b,c,d,n⟩)::arr tb 0 (thCells cv (Mach.own t ⟨12,on,a,b,c,d,n⟩) av)::F) (ent_eq (by rw [show Value.int .u64 (((t.r b &&& t.r c)%18446744073709551616:Nat):Int)=num ((t.r b &&& t.r c)%18446744073709551616) from rfl,thCells_set ha];rfl)) ?_
  skip
  (first | refine or0 Try.func92 Try.results92 hQ ?_ | refine on0 Try.func92 Try.results92 hQ ?_)
  exact ⟨_,rfl,rfl,rfl⟩
 ·refine tr_of_body Try.func92 rfl Try.ntmps92 (by simp) fun um Q _ hQ=>?_
  simp only [argE,Nat.zero_add,Nat.reduceAdd]
  repeat (first | (apply wo_mo;apply mo_box;exact rfl;exact trivial) | refine we_seq ?_ | (refine wR ?_;try simp only [oS]))
  rintro v' L' ⟨xb,rfl,rfl⟩
  repeat (first | refine wS ?_ | refine weqlT ?_ | refine weqlF ?_ | refine we_seq ?_ | (refine wR ?_;try simp only [oS]) | refine wo_nil ?_ | refine wM ?_ | refine wA ?_ | refine wN ?_ | refine wD ?_ | refine wL ?_ | refine wadd ?_ | refine wT ?_ | refine wF ?_ | refine we_block ?_)
  refine we_ent (arr xb 0 (inC ⟨13,on,a,b,c,d,n⟩)::arr tb 0 (thCells cv { t with pc:=t.pc+1 } av)::F) .refl ?_
  refine we_draw (List.range' 0 19) (by kernel_rfl) ?_
  have hreg:=@hregs (arr xb 0 (inC ⟨13,on,a,b,c,d,n⟩))
  repeat (first | (apply ap_pure;exact rfl;exact rfl;exact trivial;intro L;apply mo_indexArr1;exact rfl;exact rfl;omega) | (apply ap_read;exact rfl;exact rfl;exact trivial;apply mo_load;exact rfl;exact hreg _ hb) | (apply ap_read;exact rfl;exact rfl;exact trivial;apply mo_load;exact rfl;exact hreg _ hc) | (apply ap_pure;exact rfl;exact rfl;exact trivial;intro L;apply mo_bin;exact rfl;exact rfl;apply bin_or;exact or_u64 vb vc) | refine aM ?_ | refine aN ?_ | refine aD ?_ | refine aL ?_)
  refine ap_loud rfl rfl rfl rfl rfl trivial (mo_store rfl rfl rfl (Wt.row0 (k:=3+a) (vs:=thCells cv { t with pc:=t.pc+1 } av) (.there .here) (by rw [thCells_len];omega))) ?_
  rintro v' L' ⟨rfl,rfl⟩
  refine ap_end ?_
  refine at_ent (arr xb 0 (inC ⟨13,on,a,b,c,d,n⟩)::arr tb 0 (thCells cv (Mach.own t ⟨13,on,a,b,c,d,n⟩) av)::F) (ent_eq (by rw [show Value.int .u64 (((t.r b ||| t.r c)%18446744073709551616:Nat):Int)=num ((t.r b ||| t.r c)%18446744073709551616) from rfl,thCells_set ha];rfl)) ?_
  skip
  (first | refine or0 Try.func92 Try.results92 hQ ?_ | refine on0 Try.func92 Try.results92 hQ ?_)
  exact ⟨_,rfl,rfl,rfl⟩
 ·have hs:n<64:=hsh.resolve_left (by simp)
  refine tr_of_body Try.func92 rfl Try.ntmps92 (by simp) fun um Q _ hQ=>?_
  simp only [argE,Nat.zero_add,Nat.reduceAdd]
  repeat (first | (apply wo_mo;apply mo_box;exact rfl;exact trivial) | refine we_seq ?_ | (refine wR ?_;try simp only [oS]))
  rintro v' L' ⟨xb,rfl,rfl⟩
  repeat (first | refine wS ?_ | refine weqlT ?_ | refine weqlF ?_ | refine we_seq ?_ | (refine wR ?_;try simp only [oS]) | refine wo_nil ?_ | refine wM ?_ | refine wA ?_ | refine wN ?_ | refine wD ?_ | refine wL ?_ | refine wadd ?_ | refine wT ?_ | refine wF ?_ | refine we_block ?_)
  refine we_ent (arr xb 0 (inC ⟨14,on,a,b,c,d,n⟩)::arr tb 0 (thCells cv { t with pc:=t.pc+1 } av)::F) .refl ?_
  refine we_draw (List.range' 0 15) (by kernel_rfl) ?_
  have hreg:=@hregs (arr xb 0 (inC ⟨14,on,a,b,c,d,n⟩))
  repeat (first | (apply ap_pure;exact rfl;exact rfl;exact trivial;intro L;apply mo_indexArr1;exact rfl;exact rfl;omega) | (apply ap_read;exact rfl;exact rfl;exact trivial;apply mo_load;exact rfl;exact hreg _ hb) | (apply ap_pure;exact rfl;exact rfl;exact trivial;intro L;apply mo_bin;exact rfl;exact rfl;apply bin_shl;omega;exact u64_shl hs) | refine aM ?_ | refine aN ?_ | refine aD ?_ | refine aL ?_)
  refine ap_loud rfl rfl rfl rfl rfl trivial (mo_store rfl rfl rfl (Wt.row0 (k:=3+a) (vs:=thCells cv { t with pc:=t.pc+1 } av) (.there .here) (by rw [thCells_len];omega))) ?_
  rintro v' L' ⟨rfl,rfl⟩
  refine ap_end ?_
  refine at_ent (arr xb 0 (inC ⟨14,on,a,b,c,d,n⟩)::arr tb 0 (thCells cv (Mach.own t ⟨14,on,a,b,c,d,n⟩) av)::F) (ent_eq (by rw [show Value.int .u64 (((t.r b*2^n)%18446744073709551616:Nat):Int)=num ((t.r b*2^n)%18446744073709551616) from rfl,thCells_set ha];rfl)) ?_
  skip
  (first | refine or0 Try.func92 Try.results92 hQ ?_ | refine on0 Try.func92 Try.results92 hQ ?_)
  exact ⟨_,rfl,rfl,rfl⟩
 ·have hs:n<64:=hsh.resolve_left (by simp)
  refine tr_of_body Try.func92 rfl Try.ntmps92 (by simp) fun um Q _ hQ=>?_
  simp only [argE,Nat.zero_add,Nat.reduceAdd]
  repeat (first | (apply wo_mo;apply mo_box;exact rfl;exact trivial) | refine we_seq ?_ | (refine wR ?_;try simp only [oS]))
  rintro v' L' ⟨xb,rfl,rfl⟩
  repeat (first | refine wS ?_ | refine weqlT ?_ | refine weqlF ?_ | refine we_seq ?_ | (refine wR ?_;try simp only [oS]) | refine wo_nil ?_ | refine wM ?_ | refine wA ?_ | refine wN ?_ | refine wD ?_ | refine wL ?_ | refine wadd ?_ | refine wT ?_ | refine wF ?_ | refine we_block ?_)
  refine we_ent (arr xb 0 (inC ⟨15,on,a,b,c,d,n⟩)::arr tb 0 (thCells cv { t with pc:=t.pc+1 } av)::F) .refl ?_
  refine we_draw (List.range' 0 15) (by kernel_rfl) ?_
  have hreg:=@hregs (arr xb 0 (inC ⟨15,on,a,b,c,d,n⟩))
  repeat (first | (apply ap_pure;exact rfl;exact rfl;exact trivial;intro L;apply mo_indexArr1;exact rfl;exact rfl;omega) | (apply ap_read;exact rfl;exact rfl;exact trivial;apply mo_load;exact rfl;exact hreg _ hb) | (apply ap_pure;exact rfl;exact rfl;exact trivial;intro L;apply mo_bin;exact rfl;exact rfl;apply bin_shr;omega;exact u64_shr hs vb) | refine aM ?_ | refine aN ?_ | refine aD ?_ | refine aL ?_)
  refine ap_loud rfl rfl rfl rfl rfl trivial (mo_store rfl rfl rfl (Wt.row0 (k:=3+a) (vs:=thCells cv { t with pc:=t.pc+1 } av) (.there .here) (by rw [thCells_len];omega))) ?_
  rintro v' L' ⟨rfl,rfl⟩
  refine ap_end ?_
  refine at_ent (arr xb 0 (inC ⟨15,on,a,b,c,d,n⟩)::arr tb 0 (thCells cv (Mach.own t ⟨15,on,a,b,c,d,n⟩) av)::F) (ent_eq (by rw [show Value.int .u64 (((t.r b/2^n)%18446744073709551616:Nat):Int)=num ((t.r b/2^n)%18446744073709551616) from rfl,thCells_set ha];rfl)) ?_
  skip
  (first | refine or0 Try.func92 Try.results92 hQ ?_ | refine on0 Try.func92 Try.results92 hQ ?_)
  exact ⟨_,rfl,rfl,rfl⟩
 ·refine tr_of_body Try.func92 rfl Try.ntmps92 (by simp) fun um Q _ hQ=>?_
  simp only [argE,Nat.zero_add,Nat.reduceAdd]
  repeat (first | (apply wo_mo;apply mo_box;exact rfl;exact trivial) | refine we_seq ?_ | (refine wR ?_;try simp only [oS]))
  rintro v' L' ⟨xb,rfl,rfl⟩
  repeat (first | refine wS ?_ | refine weqlT ?_ | refine weqlF ?_ | refine we_seq ?_ | (refine wR ?_;try simp only [oS]) | refine wo_nil ?_ | refine wM ?_ | refine wA ?_ | refine wN ?_ | refine wD ?_ | refine wL ?_ | refine wadd ?_ | refine wT ?_ | refine wF ?_ | refine we_block ?_)
  refine we_ent (arr xb 0 (inC ⟨16,on,a,b,c,d,n⟩)::arr tb 0 (thCells cv { t with pc:=t.pc+1 } av)::F) .refl ?_
  refine we_draw (List.range' 0 19) (by kernel_rfl) ?_
  have hreg:=@hregs (arr xb 0 (inC ⟨16,on,a,b,c,d,n⟩))
  repeat (first | (apply ap_pure;exact rfl;exact rfl;exact trivial;intro L;apply mo_indexArr1;exact rfl;exact rfl;omega) | (apply ap_read;exact rfl;exact rfl;exact trivial;apply mo_load;exact rfl;exact hreg _ hb) | (apply ap_read;exact rfl;exact rfl;exact trivial;apply mo_load;exact rfl;exact hreg _ hc) | (apply ap_pure;exact rfl;exact rfl;exact trivial;intro L;apply mo_max;exact rfl;exact rfl) | refine aM ?_ | refine aN ?_ | refine aD ?_ | refine aL ?_)
  refine ap_loud rfl rfl rfl rfl rfl trivial (mo_store rfl rfl rfl (Wt.row0 (k:=3+a) (vs:=thCells cv { t with pc:=t.pc+1 } av) (.there .here) (by rw [thCells_len];omega))) ?_
  rintro v' L' ⟨rfl,rfl⟩
  refine ap_end ?_
  refine at_ent (arr xb 0 (inC ⟨16,on,a,b,c,d,n⟩)::arr tb 0 (thCells cv (Mach.own t ⟨16,on,a,b,c,d,n⟩) av)::F) (ent_eq (by rw [show Value.int .u64 (max (t.r b:Int) (t.r c:Int))=num (max (t.r b) (t.r c)%18446744073709551616) by show Value.int .u64 _=Value.int .u64 _;rw [show max (t.r b:Int) (t.r c:Int)=((max (t.r b) (t.r c)%18446744073709551616:Nat):Int) by omega],thCells_set ha];rfl)) ?_
  skip
  (first | refine or0 Try.func92 Try.results92 hQ ?_ | refine on0 Try.func92 Try.results92 hQ ?_)
  exact ⟨_,rfl,rfl,rfl⟩
end Go.Proofs.Ytmkkanmkjfnpdaa
namespace Go.Proofs.Ytmkkanmkjfnpdaa
open Go Go.PB
attribute [local irreducible] Mo Bin Eql Tr Wo Ap
section
variable {B:Hand} [Lets B] {L F:List HProp} {x:B.X}
set_option maxHeartbeats 4000000 in
theorem turns_jump_tr {tb ab ao an ac:Nat} {w cv:Value} {t:Mach.Th} {i:Mach.In} (hop:18≤i.op∧i.op≤21) (hi:i.ok=true) (hr:∀ j,t.r j<18446744073709551616) (hcall:t.call<an)
  (hh:Has L (arr tb 0 (thCells cv { t with pc:=t.pc+1 } (.slice (some ⟨ab,ao,none⟩) an ac))) F) :
  Tr Try.prog B 100 [.pointer (some ⟨tb,0,none⟩),w,.agg (inC i).toArray] L x fun v L' x'=>v=.tuple #[]∧L'=arr tb 0 (thCells cv (Mach.own t i) (.slice (some ⟨ab,ao,none⟩) an ac))::F∧x'=x:=by
 refine tr_star _ (fun h s=>hh.star s) ?_
 clear hh
 refine Tr.post (R:=fun v L' x'=>∃ c,v=.tuple #[]∧L'=c::arr tb 0 (thCells cv (Mach.own t i) (.slice (some ⟨ab,ao,none⟩) an ac))::F∧x'=x) ?_ (by rintro v L' x' ⟨c,rfl,rfl,rfl⟩;exact ⟨_,⟨rfl,rfl,rfl⟩,fun h s=>star_drop s⟩)
 obtain ⟨op,on,a,b,c,d,n⟩:=i
 simp only [Mach.In.ok,Bool.and_eq_true,decide_eq_true_eq,Bool.or_eq_true,Bool.not_eq_true',decide_eq_false_iff_not] at hi hop
 obtain ⟨⟨⟨⟨⟨⟨⟨⟨⟨⟨_,_⟩,ha⟩,hb⟩,hc⟩,hd⟩,hon⟩,hn⟩,hj⟩,_⟩,_⟩:=hi
 have hnj:n<1000000:=by
  rcases hj with hj | hj
  ·simp at hj;omega
  ·exact hj
 have hcv:IntKind.i64.wrap (n:Int)=(n:Int):=wrap_i64 (by omega) (by omega)
 have hops:op=18∨op=19∨op=20∨op=21:=by omega
 have hregs:∀ {e:HProp},∀ j,j<24→Rd (e::arr tb 0 (thCells cv { t with pc:=t.pc+1 } (.slice (some ⟨ab,ao,none⟩) an ac))::F) tb (3+j) (num (t.r j)):=fun {e} j h=>rd_reg (t:={ t with pc:=t.pc+1 }) (.there .here) h
 have va:=hr a
 have vb:=hr b
 rcases hops with rfl | rfl | rfl | rfl
 ·refine tr_of_body Try.func100 rfl Try.ntmps100 (by simp) fun um Q _ hQ=>?_
  simp only [argE,Nat.zero_add,Nat.reduceAdd]
  repeat (first | (apply wo_mo;apply mo_box;exact rfl;exact trivial) | refine we_seq ?_ | (refine wR ?_;try simp only [oS]))
  rintro v' L' ⟨xb,rfl,rfl⟩
  repeat (first | refine we_seq ?_ | (refine wR ?_;try simp only [oS]) | refine wo_nil ?_ | refine wM ?_ | refine wA ?_ | refine wN ?_ | refine wD ?_)
  refine we_ent (arr xb 0 (inC ⟨18,on,a,b,c,d,n⟩)::arr tb 0 (thCells cv { t with pc:=t.pc+1 } (.slice (some ⟨ab,ao,none⟩) an ac))::F) .refl ?_
  refine we_draw (List.range' 0 11) (by kernel_rfl) ?_
  have hreg:=@hregs (arr xb 0 (inC ⟨18,on,a,b,c,d,n⟩))
  have hav:Rd (arr xb 0 (inC ⟨18,on,a,b,c,d,n⟩)::arr tb 0 (thCells cv { t with pc:=t.pc+1 } (.slice (some ⟨ab,ao,none⟩) an ac))::F) tb 27 (.slice (some ⟨ab,ao,none⟩) an ac):=.there (.row0 rfl)
  repeat (first | (apply ap_read;exact rfl;exact rfl;exact trivial;apply mo_load;exact rfl;exact hav) | (apply ap_pure;exact rfl;exact rfl;exact trivial;intro L;apply mo_index2;exact rfl;exact rfl;omega) | refine aM ?_ | refine aA ?_ | refine aN ?_ | refine aD ?_ | refine aL ?_ | refine ap_end ?_)
  repeat (first | refine weqlT ?_ | refine we_seq ?_ | (refine wR ?_;try simp only [oS]) | refine wo_nil ?_ | refine wM ?_ | refine wA ?_ | refine wD ?_ | refine wL ?_ | refine wT ?_ | refine we_block ?_)
  repeat (first | (apply wo_po;apply mo_conv;exact rfl;exact hcv;exact trivial) | refine wS ?_ | refine wo_nil ?_ | refine wN ?_ | refine wD ?_)
  refine at_ent (arr xb 0 (inC ⟨18,on,a,b,c,d,n⟩)::arr tb 0 (thCells cv (Mach.own t ⟨18,on,a,b,c,d,n⟩) (.slice (some ⟨ab,ao,none⟩) an ac))::F) (ent_eq (by rfl)) ?_
  (first | refine or0 Try.func100 Try.results100 hQ ?_ | refine on0 Try.func100 Try.results100 hQ ?_)
  exact ⟨_,rfl,rfl,rfl⟩
 ·by_cases h0:t.r a=t.r b
  ·have hc1:(t.r a:Int)=(t.r b:Int):=by omega
   refine tr_of_body Try.func100 rfl Try.ntmps100 (by simp) fun um Q _ hQ=>?_
   simp only [argE,Nat.zero_add,Nat.reduceAdd]
   repeat (first | (apply wo_mo;apply mo_box;exact rfl;exact trivial) | refine we_seq ?_ | (refine wR ?_;try simp only [oS]))
   rintro v' L' ⟨xb,rfl,rfl⟩
   repeat (first | refine we_seq ?_ | (refine wR ?_;try simp only [oS]) | refine wo_nil ?_ | refine wM ?_ | refine wA ?_ | refine wN ?_ | refine wD ?_)
   refine we_ent (arr xb 0 (inC ⟨19,on,a,b,c,d,n⟩)::arr tb 0 (thCells cv { t with pc:=t.pc+1 } (.slice (some ⟨ab,ao,none⟩) an ac))::F) .refl ?_
   refine we_draw (List.range' 0 11) (by kernel_rfl) ?_
   have hreg:=@hregs (arr xb 0 (inC ⟨19,on,a,b,c,d,n⟩))
   have hav:Rd (arr xb 0 (inC ⟨19,on,a,b,c,d,n⟩)::arr tb 0 (thCells cv { t with pc:=t.pc+1 } (.slice (some ⟨ab,ao,none⟩) an ac))::F) tb 27 (.slice (some ⟨ab,ao,none⟩) an ac):=.there (.row0 rfl)
   repeat (first | (apply ap_read;exact rfl;exact rfl;exact trivial;apply mo_load;exact rfl;exact hav) | (apply ap_pure;exact rfl;exact rfl;exact trivial;intro L;apply mo_index2;exact rfl;exact rfl;omega) | refine aM ?_ | refine aA ?_ | refine aN ?_ | refine aD ?_ | refine aL ?_ | refine ap_end ?_)
   repeat (first | refine weqlT ?_ | refine weqlF ?_ | refine we_seq ?_ | (refine wR ?_;try simp only [oS]) | refine wo_nil ?_ | refine wA ?_ | refine wD ?_ | refine wL ?_ | refine wT ?_ | refine wF ?_ | refine we_block ?_)
   refine we_draw (List.range' 0 13) (by kernel_rfl) ?_
   repeat (first | (apply ap_pure;exact rfl;exact rfl;exact trivial;intro L;apply mo_indexArr1;exact rfl;exact rfl;omega) | (apply ap_read;exact rfl;exact rfl;exact trivial;apply mo_load;exact rfl;exact hreg _ ha) | (apply ap_read;exact rfl;exact rfl;exact trivial;apply mo_load;exact rfl;exact hreg _ hb) | (apply ap_pure;exact rfl;exact rfl;exact trivial;intro L;apply mo_bin;exact rfl;exact rfl;apply bin_eqlT;exact hc1) | refine aM ?_ | refine aN ?_ | refine aD ?_ | refine aL ?_ | refine ap_end ?_)
   repeat (first | (apply wo_po;apply mo_conv;exact rfl;exact hcv;exact trivial) | refine wS ?_ | (refine wR ?_;try simp only [oS]) | refine wo_nil ?_ | refine wM ?_ | refine wN ?_ | refine wD ?_ | refine wL ?_ | refine wT ?_)
   refine at_ent (arr xb 0 (inC ⟨19,on,a,b,c,d,n⟩)::arr tb 0 (thCells cv (Mach.own t ⟨19,on,a,b,c,d,n⟩) (.slice (some ⟨ab,ao,none⟩) an ac))::F) (ent_eq (by rw [show Mach.own t ⟨19,on,a,b,c,d,n⟩={ t with pc:=n } from if_pos h0];rfl)) ?_
   (first | refine or0 Try.func100 Try.results100 hQ ?_ | refine on0 Try.func100 Try.results100 hQ ?_)
   exact ⟨_,rfl,rfl,rfl⟩
  ·have hc1:¬ (t.r a:Int)=(t.r b:Int):=by omega
   refine tr_of_body Try.func100 rfl Try.ntmps100 (by simp) fun um Q _ hQ=>?_
   simp only [argE,Nat.zero_add,Nat.reduceAdd]
   repeat (first | (apply wo_mo;apply mo_box;exact rfl;exact trivial) | refine we_seq ?_ | (refine wR ?_;try simp only [oS]))
   rintro v' L' ⟨xb,rfl,rfl⟩
   repeat (first | refine we_seq ?_ | (refine wR ?_;try simp only [oS]) | refine wo_nil ?_ | refine wM ?_ | refine wA ?_ | refine wN ?_ | refine wD ?_)
   refine we_ent (arr xb 0 (inC ⟨19,on,a,b,c,d,n⟩)::arr tb 0 (thCells cv { t with pc:=t.pc+1 } (.slice (some ⟨ab,ao,none⟩) an ac))::F) .refl ?_
   refine we_draw (List.range' 0 11) (by kernel_rfl) ?_
   have hreg:=@hregs (arr xb 0 (inC ⟨19,on,a,b,c,d,n⟩))
   have hav:Rd (arr xb 0 (inC ⟨19,on,a,b,c,d,n⟩)::arr tb 0 (thCells cv { t with pc:=t.pc+1 } (.slice (some ⟨ab,ao,none⟩) an ac))::F) tb 27 (.slice (some ⟨ab,ao,none⟩) an ac):=.there (.row0 rfl)
   repeat (first | (apply ap_read;exact rfl;exact rfl;exact trivial;apply mo_load;exact rfl;exact hav) | (apply ap_pure;exact rfl;exact rfl;exact trivial;intro L;apply mo_index2;exact rfl;exact rfl;omega) | refine aM ?_ | refine aA ?_ | refine aN ?_ | refine aD ?_ | refine aL ?_ | refine ap_end ?_)
   repeat (first | refine weqlT ?_ | refine weqlF ?_ | refine we_seq ?_ | (refine wR ?_;try simp only [oS]) | refine wo_nil ?_ | refine wA ?_ | refine wD ?_ | refine wL ?_ | refine wT ?_ | refine wF ?_ | refine we_block ?_)
   refine we_draw (List.range' 0 13) (by kernel_rfl) ?_
   repeat (first | (apply ap_pure;exact rfl;exact rfl;exact trivial;intro L;apply mo_indexArr1;exact rfl;exact rfl;omega) | (apply ap_read;exact rfl;exact rfl;exact trivial;apply mo_load;exact rfl;exact hreg _ ha) | (apply ap_read;exact rfl;exact rfl;exact trivial;apply mo_load;exact rfl;exact hreg _ hb) | (apply ap_pure;exact rfl;exact rfl;exact trivial;intro L;apply mo_bin;exact rfl;exact rfl;apply bin_eqlF;exact hc1) | refine aM ?_ | refine aN ?_ | refine aD ?_ | refine aL ?_ | refine ap_end ?_)
   repeat (first | refine wF ?_ | refine we_skip ?_)
   refine at_ent (arr xb 0 (inC ⟨19,on,a,b,c,d,n⟩)::arr tb 0 (thCells cv (Mach.own t ⟨19,on,a,b,c,d,n⟩) (.slice (some ⟨ab,ao,none⟩) an ac))::F) (ent_eq (by rw [show Mach.own t ⟨19,on,a,b,c,d,n⟩={ t with pc:=t.pc+1 } from if_neg h0])) ?_
   (first | refine or0 Try.func100 Try.results100 hQ ?_ | refine on0 Try.func100 Try.results100 hQ ?_)
   exact ⟨_,rfl,rfl,rfl⟩
 ·by_cases h0:t.r a<t.r b
  ·have hc1:(t.r a:Int)<(t.r b:Int):=by omega
   refine tr_of_body Try.func100 rfl Try.ntmps100 (by simp) fun um Q _ hQ=>?_
   simp only [argE,Nat.zero_add,Nat.reduceAdd]
   repeat (first | (apply wo_mo;apply mo_box;exact rfl;exact trivial) | refine we_seq ?_ | (refine wR ?_;try simp only [oS]))
   rintro v' L' ⟨xb,rfl,rfl⟩
   repeat (first | refine we_seq ?_ | (refine wR ?_;try simp only [oS]) | refine wo_nil ?_ | refine wM ?_ | refine wA ?_ | refine wN ?_ | refine wD ?_)
   refine we_ent (arr xb 0 (inC ⟨20,on,a,b,c,d,n⟩)::arr tb 0 (thCells cv { t with pc:=t.pc+1 } (.slice (some ⟨ab,ao,none⟩) an ac))::F) .refl ?_
   refine we_draw (List.range' 0 11) (by kernel_rfl) ?_
   have hreg:=@hregs (arr xb 0 (inC ⟨20,on,a,b,c,d,n⟩))
   have hav:Rd (arr xb 0 (inC ⟨20,on,a,b,c,d,n⟩)::arr tb 0 (thCells cv { t with pc:=t.pc+1 } (.slice (some ⟨ab,ao,none⟩) an ac))::F) tb 27 (.slice (some ⟨ab,ao,none⟩) an ac):=.there (.row0 rfl)
   repeat (first | (apply ap_read;exact rfl;exact rfl;exact trivial;apply mo_load;exact rfl;exact hav) | (apply ap_pure;exact rfl;exact rfl;exact trivial;intro L;apply mo_index2;exact rfl;exact rfl;omega) | refine aM ?_ | refine aA ?_ | refine aN ?_ | refine aD ?_ | refine aL ?_ | refine ap_end ?_)
   repeat (first | refine weqlT ?_ | refine weqlF ?_ | refine we_seq ?_ | (refine wR ?_;try simp only [oS]) | refine wo_nil ?_ | refine wA ?_ | refine wD ?_ | refine wL ?_ | refine wT ?_ | refine wF ?_ | refine we_block ?_)
   refine we_draw (List.range' 0 13) (by kernel_rfl) ?_
   repeat (first | (apply ap_pure;exact rfl;exact rfl;exact trivial;intro L;apply mo_indexArr1;exact rfl;exact rfl;omega) | (apply ap_read;exact rfl;exact rfl;exact trivial;apply mo_load;exact rfl;exact hreg _ ha) | (apply ap_read;exact rfl;exact rfl;exact trivial;apply mo_load;exact rfl;exact hreg _ hb) | (apply ap_pure;exact rfl;exact rfl;exact trivial;intro L;apply mo_bin;exact rfl;exact rfl;apply bin_lssT;exact hc1) | refine aM ?_ | refine aN ?_ | refine aD ?_ | refine aL ?_ | refine ap_end ?_)
   repeat (first | (apply wo_po;apply mo_conv;exact rfl;exact hcv;exact trivial) | refine wS ?_ | (refine wR ?_;try simp only [oS]) | refine wo_nil ?_ | refine wM ?_ | refine wN ?_ | refine wD ?_ | refine wL ?_ | refine wT ?_)
   refine at_ent (arr xb 0 (inC ⟨20,on,a,b,c,d,n⟩)::arr tb 0 (thCells cv (Mach.own t ⟨20,on,a,b,c,d,n⟩) (.slice (some ⟨ab,ao,none⟩) an ac))::F) (ent_eq (by rw [show Mach.own t ⟨20,on,a,b,c,d,n⟩={ t with pc:=n } from if_pos h0];rfl)) ?_
   (first | refine or0 Try.func100 Try.results100 hQ ?_ | refine on0 Try.func100 Try.results100 hQ ?_)
   exact ⟨_,rfl,rfl,rfl⟩
  ·have hc1:¬ (t.r a:Int)<(t.r b:Int):=by omega
   refine tr_of_body Try.func100 rfl Try.ntmps100 (by simp) fun um Q _ hQ=>?_
   simp only [argE,Nat.zero_add,Nat.reduceAdd]
   repeat (first | (apply wo_mo;apply mo_box;exact rfl;exact trivial) | refine we_seq ?_ | (refine wR ?_;try simp only [oS]))
   rintro v' L' ⟨xb,rfl,rfl⟩
   repeat (first | refine we_seq ?_ | (refine wR ?_;try simp only [oS]) | refine wo_nil ?_ | refine wM ?_ | refine wA ?_ | refine wN ?_ | refine wD ?_)
   refine we_ent (arr xb 0 (inC ⟨20,on,a,b,c,d,n⟩)::arr tb 0 (thCells cv { t with pc:=t.pc+1 } (.slice (some ⟨ab,ao,none⟩) an ac))::F) .refl ?_
   refine we_draw (List.range' 0 11) (by kernel_rfl) ?_
   have hreg:=@hregs (arr xb 0 (inC ⟨20,on,a,b,c,d,n⟩))
   have hav:Rd (arr xb 0 (inC ⟨20,on,a,b,c,d,n⟩)::arr tb 0 (thCells cv { t with pc:=t.pc+1 } (.slice (some ⟨ab,ao,none⟩) an ac))::F) tb 27 (.slice (some ⟨ab,ao,none⟩) an ac):=.there (.row0 rfl)
   repeat (first | (apply ap_read;exact rfl;exact rfl;exact trivial;apply mo_load;exact rfl;exact hav) | (apply ap_pure;exact rfl;exact rfl;exact trivial;intro L;apply mo_index2;exact rfl;exact rfl;omega) | refine aM ?_ | refine aA ?_ | refine aN ?_ | refine aD ?_ | refine aL ?_ | refine ap_end ?_)
   repeat (first | refine weqlT ?_ | refine weqlF ?_ | refine we_seq ?_ | (refine wR ?_;try simp only [oS]) | refine wo_nil ?_ | refine wA ?_ | refine wD ?_ | refine wL ?_ | refine wT ?_ | refine wF ?_ | refine we_block ?_)
   refine we_draw (List.range' 0 13) (by kernel_rfl) ?_
   repeat (first | (apply ap_pure;exact rfl;exact rfl;exact trivial;intro L;apply mo_indexArr1;exact rfl;exact rfl;omega) | (apply ap_read;exact rfl;exact rfl;exact trivial;apply mo_load;exact rfl;exact hreg _ ha) | (apply ap_read;exact rfl;exact rfl;exact trivial;apply mo_load;exact rfl;exact hreg _ hb) | (apply ap_pure;exact rfl;exact rfl;exact trivial;intro L;apply mo_bin;exact rfl;exact rfl;apply bin_lssF;exact hc1) | refine aM ?_ | refine aN ?_ | refine aD ?_ | refine aL ?_ | refine ap_end ?_)
   repeat (first | refine wF ?_ | refine we_skip ?_)
   refine at_ent (arr xb 0 (inC ⟨20,on,a,b,c,d,n⟩)::arr tb 0 (thCells cv (Mach.own t ⟨20,on,a,b,c,d,n⟩) (.slice (some ⟨ab,ao,none⟩) an ac))::F) (ent_eq (by rw [show Mach.own t ⟨20,on,a,b,c,d,n⟩={ t with pc:=t.pc+1 } from if_neg h0])) ?_
   (first | refine or0 Try.func100 Try.results100 hQ ?_ | refine on0 Try.func100 Try.results100 hQ ?_)
   exact ⟨_,rfl,rfl,rfl⟩
 ·have hsh:(t.r a:Int).fdiv (2^(min (63:Int).toNat IntKind.u64.bits))=(((t.r a/2^63)%18446744073709551616:Nat):Int):=u64_shr (n:=63) (by omega) va
  by_cases h0:9223372036854775808≤t.r a
  ·have hc1:(((t.r a/2^63)%18446744073709551616:Nat):Int)=1:=by omega
   refine tr_of_body Try.func100 rfl Try.ntmps100 (by simp) fun um Q _ hQ=>?_
   simp only [argE,Nat.zero_add,Nat.reduceAdd]
   repeat (first | (apply wo_mo;apply mo_box;exact rfl;exact trivial) | refine we_seq ?_ | (refine wR ?_;try simp only [oS]))
   rintro v' L' ⟨xb,rfl,rfl⟩
   repeat (first | refine we_seq ?_ | (refine wR ?_;try simp only [oS]) | refine wo_nil ?_ | refine wM ?_ | refine wA ?_ | refine wN ?_ | refine wD ?_)
   refine we_ent (arr xb 0 (inC ⟨21,on,a,b,c,d,n⟩)::arr tb 0 (thCells cv { t with pc:=t.pc+1 } (.slice (some ⟨ab,ao,none⟩) an ac))::F) .refl ?_
   refine we_draw (List.range' 0 11) (by kernel_rfl) ?_
   have hreg:=@hregs (arr xb 0 (inC ⟨21,on,a,b,c,d,n⟩))
   have hav:Rd (arr xb 0 (inC ⟨21,on,a,b,c,d,n⟩)::arr tb 0 (thCells cv { t with pc:=t.pc+1 } (.slice (some ⟨ab,ao,none⟩) an ac))::F) tb 27 (.slice (some ⟨ab,ao,none⟩) an ac):=.there (.row0 rfl)
   repeat (first | (apply ap_read;exact rfl;exact rfl;exact trivial;apply mo_load;exact rfl;exact hav) | (apply ap_pure;exact rfl;exact rfl;exact trivial;intro L;apply mo_index2;exact rfl;exact rfl;omega) | refine aM ?_ | refine aA ?_ | refine aN ?_ | refine aD ?_ | refine aL ?_ | refine ap_end ?_)
   repeat (first | refine weqlT ?_ | refine weqlF ?_ | refine we_seq ?_ | (refine wR ?_;try simp only [oS]) | refine wo_nil ?_ | refine wA ?_ | refine wD ?_ | refine wL ?_ | refine wT ?_ | refine wF ?_ | refine we_block ?_)
   refine we_draw (List.range' 0 8) (by kernel_rfl) ?_
   repeat (first | (apply ap_pure;exact rfl;exact rfl;exact trivial;intro L;apply mo_indexArr1;exact rfl;exact rfl;omega) | (apply ap_read;exact rfl;exact rfl;exact trivial;apply mo_load;exact rfl;exact hreg _ ha) | (apply ap_pure;exact rfl;exact rfl;exact trivial;intro L;apply mo_bin;exact rfl;exact rfl;apply bin_shr;omega;exact hsh) | refine aM ?_ | refine aN ?_ | refine aD ?_ | (apply ap_pure;exact rfl;exact rfl;exact gY;intro L;apply mo_bin;exact rfl;exact rfl;exact bin_eql) | refine aL ?_ | refine ap_end ?_)
   repeat (first | (apply wo_po;apply mo_conv;exact rfl;exact hcv;exact trivial) | refine wS ?_ | (refine wR ?_;try simp only [oS]) | refine wo_nil ?_ | refine wM ?_ | refine wN ?_ | refine wD ?_ | refine wL ?_ | refine wT ?_)
   refine at_ent (arr xb 0 (inC ⟨21,on,a,b,c,d,n⟩)::arr tb 0 (thCells cv (Mach.own t ⟨21,on,a,b,c,d,n⟩) (.slice (some ⟨ab,ao,none⟩) an ac))::F) (ent_eq (by rw [show Mach.own t ⟨21,on,a,b,c,d,n⟩={ t with pc:=n } from if_pos h0];rfl)) ?_
   (first | refine or0 Try.func100 Try.results100 hQ ?_ | refine on0 Try.func100 Try.results100 hQ ?_)
   exact ⟨_,rfl,rfl,rfl⟩
  ·have hc1:¬ (((t.r a/2^63)%18446744073709551616:Nat):Int)=1:=by omega
   refine tr_of_body Try.func100 rfl Try.ntmps100 (by simp) fun um Q _ hQ=>?_
   simp only [argE,Nat.zero_add,Nat.reduceAdd]
   repeat (first | (apply wo_mo;apply mo_box;exact rfl;exact trivial) | refine we_seq ?_ | (refine wR ?_;try simp only [oS]))
   rintro v' L' ⟨xb,rfl,rfl⟩
   repeat (first | refine we_seq ?_ | (refine wR ?_;try simp only [oS]) | refine wo_nil ?_ | refine wM ?_ | refine wA ?_ | refine wN ?_ | refine wD ?_)
   refine we_ent (arr xb 0 (inC ⟨21,on,a,b,c,d,n⟩)::arr tb 0 (thCells cv { t with pc:=t.pc+1 } (.slice (some ⟨ab,ao,none⟩) an ac))::F) .refl ?_
   refine we_draw (List.range' 0 11) (by kernel_rfl) ?_
   have hreg:=@hregs (arr xb 0 (inC ⟨21,on,a,b,c,d,n⟩))
   have hav:Rd (arr xb 0 (inC ⟨21,on,a,b,c,d,n⟩)::arr tb 0 (thCells cv { t with pc:=t.pc+1 } (.slice (some ⟨ab,ao,none⟩) an ac))::F) tb 27 (.slice (some ⟨ab,ao,none⟩) an ac):=.there (.row0 rfl)
   repeat (first | (apply ap_read;exact rfl;exact rfl;exact trivial;apply mo_load;exact rfl;exact hav) | (apply ap_pure;exact rfl;exact rfl;exact trivial;intro L;apply mo_index2;exact rfl;exact rfl;omega) | refine aM ?_ | refine aA ?_ | refine aN ?_ | refine aD ?_ | refine aL ?_ | refine ap_end ?_)
   repeat (first | refine weqlT ?_ | refine weqlF ?_ | refine we_seq ?_ | (refine wR ?_;try simp only [oS]) | refine wo_nil ?_ | refine wA ?_ | refine wD ?_ | refine wL ?_ | refine wT ?_ | refine wF ?_ | refine we_block ?_)
   refine we_draw (List.range' 0 8) (by kernel_rfl) ?_
   repeat (first | (apply ap_pure;exact rfl;exact rfl;exact trivial;intro L;apply mo_indexArr1;exact rfl;exact rfl;omega) | (apply ap_read;exact rfl;exact rfl;exact trivial;apply mo_load;exact rfl;exact hreg _ ha) | (apply ap_pure;exact rfl;exact rfl;exact trivial;intro L;apply mo_bin;exact rfl;exact rfl;apply bin_shr;omega;exact hsh) | refine aM ?_ | refine aN ?_ | refine aD ?_ | (apply ap_pure;exact rfl;exact rfl;exact gY;intro L;apply mo_bin;exact rfl;exact rfl;exact bin_eql) | refine aL ?_ | refine ap_end ?_)
   repeat (first | refine wF ?_ | refine we_skip ?_)
   refine at_ent (arr xb 0 (inC ⟨21,on,a,b,c,d,n⟩)::arr tb 0 (thCells cv (Mach.own t ⟨21,on,a,b,c,d,n⟩) (.slice (some ⟨ab,ao,none⟩) an ac))::F) (ent_eq (by rw [show Mach.own t ⟨21,on,a,b,c,d,n⟩={ t with pc:=t.pc+1 } from if_neg h0])) ?_
   (first | refine or0 Try.func100 Try.results100 hQ ?_ | refine on0 Try.func100 Try.results100 hQ ?_)
   exact ⟨_,rfl,rfl,rfl⟩
end
section
variable {B:Hand} [Lets B] {L F:List HProp} {x:B.X}
set_option maxHeartbeats 4000000 in
theorem turns_tell_tr {tb ab ao an ac:Nat} {w cv tv:Value} {cs:List Value} {told:List Nat} {t:Mach.Th} {i:Mach.In} (hop:i.op=22) (hi:i.ok=true) (hr:∀ j,t.r j<18446744073709551616) (hcall:t.call<an) (hcs:cs[2*t.call+1]?=some tv) (hl:told.length<1000000000) :
  Tr Try.prog B 100 [.pointer (some ⟨tb,0,none⟩),w,.agg (inC i).toArray] (arr tb 0 (thCells cv { t with pc:=t.pc+1 } (.slice (some ⟨ab,ao,none⟩) an ac))::vec 2 (.slice (some ⟨ab,ao,none⟩) an ac) cs::vec 1 tv (told.map num)::F) x
   fun v L' x'=>∃ tv',v=.tuple #[]∧L'=arr tb 0 (thCells cv { t with pc:=t.pc+1 } (.slice (some ⟨ab,ao,none⟩) an ac))::vec 2 (.slice (some ⟨ab,ao,none⟩) an ac) (cs.set (2*t.call+1) tv')::vec 1 tv' ((told++[t.r i.a]).map num)::F∧x'=x:=by
 refine tr_pure (of_has (.there (.there .here)) (vec_shape (by omega))) ?_
 rintro ⟨ta,tn,tc,rfl,htn,_,hta,hta2⟩
 have htn':tn=told.length:=by simpa using htn.symm
 subst htn'
 refine Tr.post (R:=fun v L' x'=>∃ tv',v=.tuple #[]∧x'=x∧∀ h,Star L' h→Star (arr tb 0 (thCells cv { t with pc:=t.pc+1 } (.slice (some ⟨ab,ao,none⟩) an ac))::vec 2 (.slice (some ⟨ab,ao,none⟩) an ac) (cs.set (2*t.call+1) tv')::vec 1 tv' ((told++[t.r i.a]).map num)::F) h) ?_ (by rintro v L' x' ⟨tv',rfl,rfl,hs⟩;exact ⟨_,⟨tv',rfl,rfl,rfl⟩,hs⟩)
 obtain ⟨op,on,a,b,c,d,n⟩:=i
 simp only [Mach.In.ok,Bool.and_eq_true,decide_eq_true_eq,Bool.or_eq_true,Bool.not_eq_true',decide_eq_false_iff_not] at hi hop
 obtain ⟨⟨⟨⟨⟨⟨⟨⟨⟨⟨_,_⟩,ha⟩,hb⟩,hc⟩,hd⟩,hon⟩,hn⟩,hj⟩,_⟩,_⟩:=hi
 subst hop
 have hcsl:2*t.call+1<cs.length:=(List.getElem?_eq_some_iff.1 hcs).1
 obtain ⟨G,hG⟩:∃ G,G=vec 2 (.slice (some ⟨ab,ao,none⟩) an ac) cs::vec 1 (.slice ta told.length tc) (told.map num)::F:=⟨_,rfl⟩
 rw [← hG]
 have hregs:∀ {e:HProp},∀ j,j<24→Rd (e::arr tb 0 (thCells cv { t with pc:=t.pc+1 } (.slice (some ⟨ab,ao,none⟩) an ac))::G) tb (3+j) (num (t.r j)):=fun {e} j h=>rd_reg (t:={ t with pc:=t.pc+1 }) (.there .here) h
 have htold:∀ {e e':HProp},Rd (e::e'::G) ab (ao+2*t.call+1) (.slice ta told.length tc):=fun {e e'}=>by
  rw [hG,Nat.add_assoc]
  exact rd_vec (.there (.there .here)) hcs
 refine tr_of_body Try.func100 rfl Try.ntmps100 (by simp) fun um Q _ hQ=>?_
 simp only [argE,Nat.zero_add,Nat.reduceAdd]
 repeat (first | (apply wo_mo;apply mo_box;exact rfl;exact trivial) | refine we_seq ?_ | (refine wR ?_;try simp only [oS]))
 rintro v' L' ⟨xb,rfl,rfl⟩
 repeat (first | refine we_seq ?_ | (refine wR ?_;try simp only [oS]) | refine wo_nil ?_ | refine wM ?_ | refine wA ?_ | refine wN ?_ | refine wD ?_)
 refine we_ent (arr xb 0 (inC ⟨22,on,a,b,c,d,n⟩)::arr tb 0 (thCells cv { t with pc:=t.pc+1 } (.slice (some ⟨ab,ao,none⟩) an ac))::G) .refl ?_
 refine we_draw (List.range' 0 11) (by kernel_rfl) ?_
 have hreg:=@hregs (arr xb 0 (inC ⟨22,on,a,b,c,d,n⟩))
 have hav:Rd (arr xb 0 (inC ⟨22,on,a,b,c,d,n⟩)::arr tb 0 (thCells cv { t with pc:=t.pc+1 } (.slice (some ⟨ab,ao,none⟩) an ac))::G) tb 27 (.slice (some ⟨ab,ao,none⟩) an ac):=.there (.row0 rfl)
 repeat (first | (apply ap_read;exact rfl;exact rfl;exact trivial;apply mo_load;exact rfl;exact hav) | (apply ap_pure;exact rfl;exact rfl;exact trivial;intro L;apply mo_index2;exact rfl;exact rfl;omega) | refine aM ?_ | refine aA ?_ | refine aN ?_ | refine aD ?_ | refine aL ?_ | refine ap_end ?_)
 repeat (first | refine weqlT ?_ | refine weqlF ?_ | refine we_seq ?_ | (refine wR ?_;try simp only [oS]) | refine wo_nil ?_ | refine wA ?_ | refine wD ?_ | refine wL ?_ | refine wT ?_ | refine wF ?_ | refine we_block ?_)
 refine we_draw (List.range' 0 14) (by kernel_rfl) ?_
 repeat (first | (apply ap_pure;exact rfl;exact rfl;exact trivial;intro L;apply mo_indexArr1;exact rfl;exact rfl;omega) | (apply ap_read;exact rfl;exact rfl;exact trivial;apply mo_load;exact rfl;exact hreg _ ha) | (apply ap_read;exact rfl;exact rfl;exact trivial;apply mo_load;exact rfl;exact htold) | refine aM ?_ | refine aN ?_ | refine aD ?_ | refine aL ?_)
 refine ap_loudR rfl rfl rfl rfl trivial (mo_buildSlice (sz:=1) (vs:=[num (t.r a)]) rfl (.cons rfl .nil) rfl (by intro v hv;cases (List.mem_singleton.1 hv);exact rfl) (by omega)) ?_ ?_
 ·rintro v L' ⟨sb,rfl,rfl⟩ p hp
  replace hp:=(List.mem_filter.1 hp).1
  simp only [List.mem_cons,List.not_mem_nil,or_false] at hp
  rcases hp with rfl | rfl | rfl | rfl | rfl | rfl | rfl | rfl | rfl | rfl <;> first | exact .inl rfl | exact .inr ⟨_,rfl,trivial,mo_load rfl (Rd.there (hreg _ ha))⟩ | exact .inr ⟨_,rfl,trivial,mo_load rfl (Rd.there (Rd.row0 rfl))⟩ | exact .inr ⟨_,rfl,trivial,mo_load rfl (Rd.there htold)⟩
 rintro v' L' ⟨sb,rfl,rfl⟩
 subst hG
 refine ap_loud rfl rfl rfl rfl rfl trivial (mo_append (sz:=1) (new:=[num (t.r a)]) rfl rfl rfl rfl (.there (.there (.there (.there .here)))) rfl (.inr ⟨_,_,rfl,Rds.all .here⟩) (by intro v hv;cases (List.mem_singleton.1 hv);exact rfl) (by simp only [sliceLen];omega)) ?_
 rintro v' L' rfl
 refine ap_know (of_has .here (vec_shape (by omega))) ?_
 rintro ⟨qa,ql,qc,rfl,_⟩
 repeat (first | refine aN ?_)
 have hw:=fun {X1 X2 X3 X4:HProp} {G:List HProp}=>wt_vec (L:=X1::X2::X3::X4::vec 2 (.slice (some ⟨ab,ao,none⟩) an ac) cs::G) (v:=.slice qa ql qc) (.there (.there (.there (.there .here)))) hcsl
 rw [← Nat.add_assoc] at hw
 refine ap_loud rfl rfl rfl rfl rfl trivial (mo_store rfl rfl rfl hw) ?_
 rintro v' L' ⟨rfl,rfl⟩
 refine ap_end ?_
 skip
 (first | refine or0 Try.func100 Try.results100 hQ ?_ | refine on0 Try.func100 Try.results100 hQ ?_)
 refine ⟨.slice qa ql qc,rfl,rfl,fun h st=>?_⟩
 rw [show (told++[t.r a]).map num=told.map num++[num (t.r a)] by simp]
 refine Ent.star ?_ st
 exact .take (.there (.there (.there (.there .here)))) (.take .here (.take .here (.drop (.drop .refl))))
end
section
variable {B:Hand} [Lets B] {L F G:List HProp} {x:B.X}
structure CW where
 a:Option Addr
 c:Nat
 k:Nat→Option Addr × Nat
 d:Nat→Option Addr × Nat
def CW.v (w:CW) (n:Nat):Value:=.slice w.a n w.c
def codeC (w:CW) (cs:List Mach.Cl):HProp:=fun h=>∀ i cl,cs[i]?=some cl→∃ cb co,w.a=some ⟨cb,co,none⟩ ∧
 h.can ⟨cb,co+2*i,none⟩ (.slice (w.k i).1 cl.code.length (w.k i).2)∧h.can ⟨cb,co+2*i+1,none⟩ (.slice (w.d i).1 cl.data.length (w.d i).2) ∧
 (∀ j y,cl.code[j]?=some y→∃ kb ko,(w.k i).1=some ⟨kb,ko,none⟩∧∀ m v,(inC y)[m]?=some v→h.can ⟨kb,ko+7*j+m,none⟩ v) ∧
 (∀ j v,cl.data[j]?=some v→∃ db dq,(w.d i).1=some ⟨db,dq,none⟩∧h.can ⟨db,dq+j,none⟩ (num v))
section
variable {w:CW} {cs:List Mach.Cl} {cl:Mach.Cl} {i:Nat}
theorem can_mono {h h1 h2:Hp} (s:Split h h1 h2) {a:Addr} {v:Value} (c:h1.can a v):h.can a v:=⟨c.1,c.2.elim (fun e=>.inl (s.o1 _ _ _ e)) (fun e=>.inr (s.r1 _ _ _ e))⟩
def Obs (L:List HProp) (c:HProp):Prop:=∀ h,Star L h→c h
theorem code_mono {h h1 h2:Hp} (s:Split h h1 h2) (c:codeC w cs h1):codeC w cs h:=by
 intro i cl hi
 obtain ⟨cb,co,q1,q2,q3,q4,q5⟩:=c i cl hi
 refine ⟨cb,co,q1,can_mono s q2,can_mono s q3,fun j y hj=>?_,fun j v hj=>?_⟩
 ·obtain ⟨kb,ko,q6,q7⟩:=q4 j y hj
  exact ⟨kb,ko,q6,fun m v hm=>can_mono s (q7 m v hm)⟩
 ·obtain ⟨db,dq,q6,q7⟩:=q5 j v hj
  exact ⟨db,dq,q6,can_mono s q7⟩
theorem Obs.there {d:HProp} (o:Obs L (codeC w cs)):Obs (d::L) (codeC w cs):=fun h s=>by
 obtain ⟨h1,h2,s1,_,hL⟩:=s
 exact code_mono s1.swap (o h2 hL)
theorem code_at (hh:Obs L (codeC w cs)) (hi:cs[i]?=some cl):∀ h,Star L h→∃ cb co,w.a=some ⟨cb,co,none⟩:=fun h s=>by
 obtain ⟨cb,co,h1,_⟩:=hh h s i cl hi
 exact ⟨cb,co,h1⟩
theorem rd_code {cb co:Nat} (hh:Obs L (codeC w cs)) (hi:cs[i]?=some cl) (ha:w.a=some ⟨cb,co,none⟩) :
  Rd L cb (co+2*i) (.slice (w.k i).1 cl.code.length (w.k i).2)∧Rd L cb (co+2*i+1) (.slice (w.d i).1 cl.data.length (w.d i).2):=by
 constructor
 ·intro h s
  obtain ⟨cb',co',h1,h2,h3,h4⟩:=hh h s i cl hi
  rw [ha] at h1;cases h1;exact h2
 ·intro h s
  obtain ⟨cb',co',h1,h2,h3,h4⟩:=hh h s i cl hi
  rw [ha] at h1;cases h1;exact h3
theorem rd_instr {j:Nat} {y:Mach.In} (hh:Obs L (codeC w cs)) (hi:cs[i]?=some cl) (hj:cl.code[j]?=some y):(∀ h,Star L h→∃ kb ko,(w.k i).1=some ⟨kb,ko,none⟩)∧∀ kb ko,(w.k i).1=some ⟨kb,ko,none⟩→Rds L kb (ko+7*j) (inC y):=by
 constructor
 ·intro h s
  obtain ⟨cb',co',h1,h2,h3,h4,h5⟩:=hh h s i cl hi
  obtain ⟨kb,ko,h6,_⟩:=h4 j y hj
  exact ⟨kb,ko,h6⟩
 ·intro kb ko hk m v hm
  intro h s
  obtain ⟨cb',co',h1,h2,h3,h4,h5⟩:=hh h s i cl hi
  obtain ⟨kb',ko',h6,h7⟩:=h4 j y hj
  rw [hk] at h6;cases h6;exact h7 m v hm
theorem rd_data {j v:Nat} (hh:Obs L (codeC w cs)) (hi:cs[i]?=some cl) (hj:cl.data[j]?=some v):(∀ h,Star L h→∃ db dq,(w.d i).1=some ⟨db,dq,none⟩)∧∀ db dq,(w.d i).1=some ⟨db,dq,none⟩→Rd L db (dq+j) (num v):=by
 constructor
 ·intro h s
  obtain ⟨cb',co',h1,h2,h3,h4,h5⟩:=hh h s i cl hi
  obtain ⟨kb,ko,h6,_⟩:=h5 j v hj
  exact ⟨kb,ko,h6⟩
 ·intro kb ko hk
  intro h s
  obtain ⟨cb',co',h1,h2,h3,h4,h5⟩:=hh h s i cl hi
  obtain ⟨kb',ko',h6,h7⟩:=h5 j v hj
  rw [hk] at h6;cases h6;exact h7
end
def ansV (y:Bool × Value × List Nat):List Value:=[.bool y.1,y.2.1]
def ansT (y:Bool × Value × List Nat):HProp:=vec 1 y.2.1 (y.2.2.map num)
def ansOf (y:Bool × Value × List Nat):Bool × List Nat:=(y.1,y.2.2)
def thB (tb:Nat) (cv:Value) (t:Mach.Th) (y:Value × List (Bool × Value × List Nat)):List HProp:=[arr tb 0 (thCells cv t y.1),vec 2 y.1 (y.2.map ansV).flatten,all (y.2.map ansT)]
def thC (tb:Nat) (cv:Value) (t:Mach.Th):HProp:=fun h=>∃ y:Value × List (Bool × Value × List Nat),y.2.map ansOf=t.ans∧(∀ j,t.r j<18446744073709551616)∧all (thB tb cv t y) h
theorem own_calls {t:Mach.Th} {i:Mach.In}:(Mach.own t i).calls=t.calls∧(Mach.own t i).call=t.call∧(Mach.own t i).over=t.over:=by
 unfold Mach.own Mach.Th.put Mach.Th.tell
 dsimp only
 split <;> (try split) <;> exact ⟨rfl,rfl,rfl⟩
theorem own_regs {t:Mach.Th} {i:Mach.In} (h:∀ j,t.r j<18446744073709551616):∀ j,(Mach.own t i).r j<18446744073709551616:=by
 intro j
 have hu:∀ v,upd t.r i.a (v%18446744073709551616) j<18446744073709551616:=fun v=>by
  unfold upd;split
  ·exact Nat.mod_lt _ (by decide)
  ·exact h j
 unfold Mach.own Mach.Th.put Mach.Th.tell
 dsimp only
 split <;> (try split) <;> first | exact hu _ | exact h j
theorem own_ans {t:Mach.Th} {i:Mach.In} (h:i.op≠22):(Mach.own t i).ans=t.ans:=by
 unfold Mach.own Mach.Th.put Mach.Th.tell
 dsimp only
 split <;> (try split) <;> first | rfl | exact absurd (by assumption) h
set_option maxHeartbeats 4000000 in
theorem own_look_tr {tb:Nat} {w av:Value} {cw:CW} {t:Mach.Th} {i:Mach.In} (hop:i.op=17) (hi:i.ok=true) (hr:∀ j,t.r j<18446744073709551616) (hpc:t.pc<1000000) (hlt:t.call<t.calls.length) (hd:(t.calls.all Mach.Cl.ok)=true) (hl:t.calls.length<1000000)
  (hh:Has L (arr tb 0 (thCells (cw.v t.calls.length) t av)) F) (hcode:Obs F (codeC cw t.calls)) :
  Tr Try.prog B 92 [.pointer (some ⟨tb,0,none⟩),w,.agg (inC i).toArray] L x fun v L' x'=>v=.tuple #[]∧L'=arr tb 0 (thCells (cw.v t.calls.length) (Mach.own t i) av)::F∧x'=x:=by
 refine tr_star _ (fun h s=>hh.star s) ?_
 clear hh
 obtain ⟨cl,hcl⟩:∃ cl,t.calls[t.call]?=some cl:=⟨t.calls[t.call],by simp [hlt]⟩
 have hclok:=List.all_eq_true.1 hd cl (List.mem_of_getElem? hcl)
 simp only [Mach.Cl.ok,Bool.and_eq_true,decide_eq_true_eq] at hclok
 refine tr_pure (code_at (.there hcode) hcl) ?_
 rintro ⟨cb,co,hca⟩
 obtain ⟨q1,q2⟩:=rd_code hcode hcl hca
 have hcv:cw.v t.calls.length=.slice (some ⟨cb,co,none⟩) t.calls.length cw.c:=by unfold CW.v;rw [hca]
 have hdat:t.cl.data=cl.data:=by unfold Mach.Th.cl;rw [List.getD_eq_getElem?_getD,hcl];rfl
 obtain ⟨op,on,a,b,c,d,n⟩:=i
 simp only [Mach.In.ok,Bool.and_eq_true,decide_eq_true_eq,Bool.or_eq_true,Bool.not_eq_true',decide_eq_false_iff_not] at hi hop
 obtain ⟨⟨⟨⟨⟨⟨⟨⟨⟨⟨_,_⟩,ha⟩,hb⟩,hc⟩,hd⟩,hon⟩,hn⟩,_⟩,hab⟩,hsh⟩:=hi
 subst hop
 have hab:¬ a=b:=hab.resolve_left (by simp)
 have vb:=hr b
 obtain ⟨q,hq⟩:∃ q,(t.r b+n)%18446744073709551616=q:=⟨_,rfl⟩
 have hadd:IntKind.u64.wrap ((t.r b:Int)+(n:Int))=(q:Int):=by rw [← hq];exact u64_add
 have hlen:IntKind.u64.wrap (cl.data.length:Int)=(cl.data.length:Int):=wrap_u64 (by omega) (by omega)
 have hown:Mach.own t ⟨17,on,a,b,c,d,n⟩={ t with pc:=t.pc+1,r:=upd t.r a (cl.data.getD q 0%18446744073709551616) }:=by
  show Mach.Th.put _ _ _=_
  unfold Mach.Th.put
  show { t with pc:=t.pc+1,r:=upd t.r a (({ t with pc:=t.pc+1 }:Mach.Th).cl.data.getD ((t.r b+n)%18446744073709551616) 0%18446744073709551616) }=_
  rw [hq,show ({ t with pc:=t.pc+1 }:Mach.Th).cl=t.cl from rfl,hdat]
 refine Tr.post (R:=fun v L' x'=>∃ e,v=.tuple #[]∧L'=e::arr tb 0 (thCells (cw.v t.calls.length) (Mach.own t ⟨17,on,a,b,c,d,n⟩) av)::F∧x'=x) ?_ (by rintro v L' x' ⟨c,rfl,rfl,rfl⟩;exact ⟨_,⟨rfl,rfl,rfl⟩,fun h s=>star_drop s⟩)
 rw [hown,hcv]
 obtain ⟨cv,hcv'⟩:∃ cv,cv=Value.slice (some ⟨cb,co,none⟩) t.calls.length cw.c:=⟨_,rfl⟩
 have hregs:∀ {t':Mach.Th},∀ j,j<24→Rd (arr tb 0 (thCells (.slice (some ⟨cb,co,none⟩) t.calls.length cw.c) t' av)::F) tb (3+j) (num (t'.r j)):=fun {t'} j h=>rd_reg .here h
 refine tr_of_body Try.func92 rfl Try.ntmps92 (by simp) fun um Q _ hQ=>?_
 simp only [argE,Nat.zero_add,Nat.reduceAdd]
 repeat (first | (apply wo_mo;apply mo_box;exact rfl;exact trivial) | refine we_seq ?_ | (refine wR ?_;try simp only [oS]))
 rintro v' L' ⟨xb,rfl,rfl⟩
 repeat (first | refine wS ?_ | refine weqlT ?_ | refine weqlF ?_ | refine we_seq ?_ | (refine wR ?_;try simp only [oS]) | refine wo_nil ?_ | refine wM ?_ | refine wA ?_ | refine wN ?_ | refine wD ?_ | refine wL ?_ | refine wadd ?_ | refine wT ?_ | refine wF ?_ | refine we_block ?_)
 refine we_ent (arr xb 0 (inC ⟨17,on,a,b,c,d,n⟩)::arr tb 0 (thCells (.slice (some ⟨cb,co,none⟩) t.calls.length cw.c) { t with pc:=t.pc+1 } av)::F) .refl ?_
 refine we_draw (List.range' 0 12) (by kernel_rfl) ?_
 repeat (first | (apply ap_pure;exact rfl;exact rfl;exact trivial;intro L;apply mo_index2;exact rfl;exact rfl;omega) | (apply ap_read;exact rfl;exact rfl;exact trivial;apply mo_load;exact rfl;exact .there (.there q2)) | refine aM ?_ | refine aA ?_ | refine aN ?_ | refine aD ?_ | refine aL ?_ | refine ap_end ?_)
 repeat (first | refine we_seq ?_)
 refine we_draw (List.range' 0 6) (by kernel_rfl) ?_
 have hreg:∀ j,j<24→Rd (arr xb 0 (inC ⟨17,on,a,b,c,d,n⟩)::arr tb 0 (thCells (.slice (some ⟨cb,co,none⟩) t.calls.length cw.c) { t with pc:=t.pc+1 } av)::F) tb (3+j) (num (t.r j)):=fun j h=>.there (hregs j h)
 repeat (first | (apply ap_pure;exact rfl;exact rfl;exact trivial;intro L;apply mo_indexArr1;exact rfl;exact rfl;omega) | refine aM ?_ | refine aN ?_ | refine aD ?_ | refine aL ?_)
 refine ap_loud rfl rfl rfl rfl rfl trivial (mo_store rfl rfl rfl (Wt.row0 (k:=3+a) (vs:=thCells (.slice (some ⟨cb,co,none⟩) t.calls.length cw.c) { t with pc:=t.pc+1 } av) (.there .here) (by rw [thCells_len];omega))) ?_
 rintro v' L' ⟨rfl,rfl⟩
 refine ap_end ?_
 refine at_ent (arr xb 0 (inC ⟨17,on,a,b,c,d,n⟩)::arr tb 0 (thCells (.slice (some ⟨cb,co,none⟩) t.calls.length cw.c) { t with pc:=t.pc+1,r:=upd t.r a 0 } av)::F) (ent_eq (by rw [show Value.int .u64 0=num 0 from rfl,thCells_set ha])) ?_
 have hreg2:∀ j,j<24→Rd (arr xb 0 (inC ⟨17,on,a,b,c,d,n⟩)::arr tb 0 (thCells (.slice (some ⟨cb,co,none⟩) t.calls.length cw.c) { t with pc:=t.pc+1,r:=upd t.r a 0 } av)::F) tb (3+j) (num (upd t.r a 0 j)):=fun j h=>.there (hregs (t':={ t with pc:=t.pc+1,r:=upd t.r a 0 }) j h)
 clear hreg
 have hrb:Rd (arr xb 0 (inC ⟨17,on,a,b,c,d,n⟩)::arr tb 0 (thCells (.slice (some ⟨cb,co,none⟩) t.calls.length cw.c) { t with pc:=t.pc+1,r:=upd t.r a 0 } av)::F) tb (3+b) (num (t.r b)):=by
  have:=hreg2 b hb
  rwa [upd_other (fun h=>hab h.symm)] at this
 repeat (first | refine we_seq ?_)
 by_cases hin:q<cl.data.length
 ·have hin':(q:Int)<(cl.data.length:Int):=by omega
  refine we_draw (List.range' 0 13) (by kernel_rfl) ?_
  repeat (first | (apply ap_pure;exact rfl;exact rfl;exact trivial;intro L;apply mo_indexArr1;exact rfl;exact rfl;omega) | (apply ap_read;exact rfl;exact rfl;exact trivial;apply mo_load;exact rfl;exact hrb) | (apply ap_pure;exact rfl;exact rfl;exact trivial;intro L;apply mo_bin;exact rfl;exact rfl;apply bin_add;exact hadd) | (apply ap_pure;exact rfl;exact rfl;exact trivial;intro L;apply mo_conv;exact rfl;exact hlen) | (apply ap_pure;exact rfl;exact rfl;exact trivial;intro L;apply mo_bin;exact rfl;exact rfl;apply bin_lssT;exact hin') | refine aM ?_ | refine aN ?_ | refine aD ?_ | (apply ap_pure;exact rfl;exact rfl;exact gY;intro L;apply mo_len;exact rfl) | refine aL ?_ | refine ap_end ?_)
  repeat (first | refine wT ?_)
  obtain ⟨v,hv⟩:∃ v,cl.data[q]?=some v:=⟨cl.data[q],by simp [hin]⟩
  have hvlt:v<18446744073709551616:=by
   have:=List.all_eq_true.1 hclok.1.1.2 v (List.mem_of_getElem? hv)
   simpa using this
  have huu:upd (upd t.r a 0) a v=upd t.r a v:=by funext j;unfold upd;split <;> rfl
  obtain ⟨q3,q4⟩:=rd_data hcode hcl hv
  refine we_pure (fun h st=>q3 h (star_drop (star_drop st))) ?_
  rintro ⟨db,dq,hdb⟩
  have q5:=q4 db dq hdb
  rw [hdb]
  refine we_draw (List.range' 0 18) (by kernel_rfl) ?_
  repeat (first | (apply ap_pure;exact rfl;exact rfl;exact trivial;intro L;apply mo_indexArr1;exact rfl;exact rfl;omega) | (apply ap_read;exact rfl;exact rfl;exact trivial;apply mo_load;exact rfl;exact hrb) | (apply ap_pure;exact rfl;exact rfl;exact trivial;intro L;apply mo_bin;exact rfl;exact rfl;apply bin_add;exact hadd) | (apply ap_pure;exact rfl;exact rfl;exact trivial;intro L;apply mo_index1;exact rfl;exact rfl;exact hin) | (apply ap_read;exact rfl;exact rfl;exact trivial;apply mo_load;exact rfl;exact .there (.there q5)) | refine aM ?_ | refine aN ?_ | refine aD ?_ | refine aL ?_)
  refine ap_loud rfl rfl rfl rfl rfl trivial (mo_store rfl rfl rfl (Wt.row0 (k:=3+a) (vs:=thCells (.slice (some ⟨cb,co,none⟩) t.calls.length cw.c) { t with pc:=t.pc+1,r:=upd t.r a 0 } av) (.there .here) (by rw [thCells_len];omega))) ?_
  rintro v' L' ⟨rfl,rfl⟩
  refine ap_end ?_
  refine at_ent (arr xb 0 (inC ⟨17,on,a,b,c,d,n⟩)::arr tb 0 (thCells (.slice (some ⟨cb,co,none⟩) t.calls.length cw.c) { t with pc:=t.pc+1,r:=upd t.r a (cl.data.getD q 0%18446744073709551616) } av)::F) (ent_eq (by
   rw [thCells_set ha,List.getD_eq_getElem?_getD,hv,Option.getD_some,Nat.mod_eq_of_lt hvlt]
   dsimp only
   rw [huu])) ?_
  skip
  (first | refine or0 Try.func92 Try.results92 hQ ?_ | refine on0 Try.func92 Try.results92 hQ ?_)
  exact ⟨_,rfl,rfl,rfl⟩
 ·have hin':¬ (q:Int)<(cl.data.length:Int):=by omega
  refine we_draw (List.range' 0 13) (by kernel_rfl) ?_
  repeat (first | (apply ap_pure;exact rfl;exact rfl;exact trivial;intro L;apply mo_indexArr1;exact rfl;exact rfl;omega) | (apply ap_read;exact rfl;exact rfl;exact trivial;apply mo_load;exact rfl;exact hrb) | (apply ap_pure;exact rfl;exact rfl;exact trivial;intro L;apply mo_bin;exact rfl;exact rfl;apply bin_add;exact hadd) | (apply ap_pure;exact rfl;exact rfl;exact trivial;intro L;apply mo_conv;exact rfl;exact hlen) | (apply ap_pure;exact rfl;exact rfl;exact trivial;intro L;apply mo_bin;exact rfl;exact rfl;apply bin_lssF;exact hin') | refine aM ?_ | refine aN ?_ | refine aD ?_ | (apply ap_pure;exact rfl;exact rfl;exact gY;intro L;apply mo_len;exact rfl) | refine aL ?_ | refine ap_end ?_)
  repeat (first | refine wF ?_ | refine we_skip ?_)
  refine at_ent (arr xb 0 (inC ⟨17,on,a,b,c,d,n⟩)::arr tb 0 (thCells (.slice (some ⟨cb,co,none⟩) t.calls.length cw.c) { t with pc:=t.pc+1,r:=upd t.r a (cl.data.getD q 0%18446744073709551616) } av)::F) (ent_eq (by
   rw [List.getD_eq_getElem?_getD,List.getElem?_eq_none (by omega)];rfl)) ?_
  (first | refine or0 Try.func92 Try.results92 hQ ?_ | refine on0 Try.func92 Try.results92 hQ ?_)
  exact ⟨_,rfl,rfl,rfl⟩
end
section
variable {B:Hand} [Lets B] {L F G:List HProp} {x:B.X}
set_option maxHeartbeats 4000000 in
theorem own_turns_tr {tb:Nat} {w cv av:Value} {t:Mach.Th} {i:Mach.In} {R:Value→List HProp→B.X→Prop} (hop:18≤i.op∧i.op≤22) (hpc:t.pc<1000000)
  (tn:∀ xb,Tr Try.prog B 100 [.pointer (some ⟨tb,0,none⟩),w,.agg (inC i).toArray] (arr xb 0 (inC i)::arr tb 0 (thCells cv { t with pc:=t.pc+1 } av)::F) x fun v L' x'=>v=.tuple #[]∧R v L' x') :
  Tr Try.prog B 92 [.pointer (some ⟨tb,0,none⟩),w,.agg (inC i).toArray] (arr tb 0 (thCells cv t av)::F) x R:=by
 obtain ⟨op,on,a,b,c,d,n⟩:=i
 simp only at hop
 have h1:¬ (op:Int)=6:=by omega
 refine tr_of_body Try.func92 rfl Try.ntmps92 (by simp) fun um Q _ hQ=>?_
 simp only [argE,Nat.zero_add,Nat.reduceAdd]
 repeat (first | (apply wo_mo;apply mo_box;exact rfl;exact trivial) | refine we_seq ?_ | (refine wR ?_;try simp only [oS]))
 rintro v' L' ⟨xb,rfl,rfl⟩
 repeat (first | refine wS ?_ | refine weqlF ?_ | refine we_seq ?_ | (refine wR ?_;try simp only [oS]) | refine wo_nil ?_ | refine wM ?_ | refine wA ?_ | refine wN ?_ | refine wD ?_ | refine wL ?_ | refine wadd ?_ | refine wF ?_ | refine we_block ?_)
 have hx:Rds (arr xb 0 (inC ⟨op,on,a,b,c,d,n⟩)::arr tb 0 (thCells cv { t with pc:=t.pc+1 } av)::F) xb 0 (inC ⟨op,on,a,b,c,d,n⟩):=Rds.all .here
 refine wo_ent (arr xb 0 (inC ⟨op,on,a,b,c,d,n⟩)::arr tb 0 (thCells cv { t with pc:=t.pc+1 } av)::F) .refl ?_
 repeat (first | (apply wo_po;apply mo_loadA (vs:=inC ⟨op,on,a,b,c,d,n⟩);exact rfl;exact rfl;exact hx;exact trivial))
 refine wo_call (.cons rfl (.cons rfl (.cons rfl .nil))) trivial (tn xb) ?_
 rintro v L' x' ⟨rfl,hR⟩
 repeat (first | refine wo_nil ?_)
 (first | refine or0 Try.func92 Try.results92 hQ ?_ | refine on0 Try.func92 Try.results92 hQ ?_)
 exact hR
theorem th_close {tb:Nat} {cv:Value} {t:Mach.Th} {y:Value × List (Bool × Value × List Nat)} (h1:y.2.map ansOf=t.ans) (h2:∀ j,t.r j<18446744073709551616) {h:Hp} (s:Star (thB tb cv t y++F) h):Star (thC tb cv t::F) h :=
 star_map (star_shut s) (fun _ z=>⟨y,h1,h2,z⟩) (fun _ z=>z)
omit [Lets B] in
theorem tr_th {tb:Nat} {cv:Value} {t:Mach.Th} {f:FuncId} {args:List Value} {R:Value→List HProp→B.X→Prop} (hh:Has L (thC tb cv t) F)
  (k:∀ y:Value × List (Bool × Value × List Nat),y.2.map ansOf=t.ans→(∀ j,t.r j<18446744073709551616)→Tr Try.prog B f args (thB tb cv t y++F) x R):Tr Try.prog B f args L x R :=
 tr_ex hh fun y=>tr_and .here fun h1=>tr_and .here fun h2=>tr_star _ (fun h st=>star_open st) (k y h1 h2)
theorem ans_len {al:List (Bool × Value × List Nat)} {an:Nat} (h:(al.map ansV).flatten.length=an*2):al.length=an:=by
 rw [flat_len (k:=2) (fun _=>rfl)] at h;omega
theorem tell_ans {al:List (Bool × Value × List Nat)} {t:Mach.Th} {v:Nat} {d:Bool} {tv tv':Value} {told:List Nat} (h:al.map ansOf=t.ans) (hk:al[t.call]?=some (d,tv,told)) :
  (al.set t.call (d,tv',told++[v])).map ansOf=(t.tell v).ans:=by
 unfold Mach.Th.tell
 simp only [← h]
 apply List.ext_getElem?
 intro j
 rw [List.getElem?_map,List.getElem?_modify,List.getElem?_map,List.getElem?_set]
 have hlt:t.call<al.length:=(List.getElem?_eq_some_iff.1 hk).1
 by_cases e:t.call=j
 ·subst e;rw [if_pos rfl,if_pos hlt,hk];show some _=some _;simp [ansOf]
 ·simp [e]
set_option maxHeartbeats 1000000 in
theorem own_tr {tb:Nat} {w:Value} {cw:CW} {t:Mach.Th} {i:Mach.In} (hop:6≤i.op∧i.op≤22) (hi:i.ok=true) (hpc:t.pc<1000000) (hlt:t.call<t.calls.length) (hans:t.call<t.ans.length)
  (hd:(t.calls.all Mach.Cl.ok)=true) (hl:t.calls.length<1000000) (hb:∀ y∈t.ans,y.2.length<1000000000) (hh:Has L (thC tb (cw.v t.calls.length) t) F) (hcode:Obs F (codeC cw t.calls)) :
  Tr Try.prog B 92 [.pointer (some ⟨tb,0,none⟩),w,.agg (inC i).toArray] L x fun v L' x'=>v=.tuple #[]∧L'=thC tb (cw.v t.calls.length) (Mach.own t i)::F∧x'=x:=by
 refine tr_th hh ?_
 rintro ⟨av,al⟩ e1 hr
 have hr':=own_regs (i:=i) hr
 dsimp only at e1
 refine Tr.post (R:=fun v L' x'=>∃ y:Value × List (Bool × Value × List Nat),y.2.map ansOf=(Mach.own t i).ans∧v=.tuple #[]∧x'=x∧∀ h,Star L' h→Star (thB tb (cw.v t.calls.length) (Mach.own t i) y++F) h) ?_
  (by rintro v L' x' ⟨y,h1,rfl,rfl,hs⟩;exact ⟨_,⟨rfl,rfl,rfl⟩,fun h st=>th_close h1 hr' (hs h st)⟩)
 by_cases c1:i.op≤16
 ·refine (own_reg_tr ⟨hop.1,c1⟩ hi hr hpc .here).mono ?_
  rintro v L' x' ⟨rfl,rfl,rfl⟩
  exact ⟨(av,al),by rw [own_ans (by omega)];exact e1,rfl,rfl,fun h st=>st⟩
 by_cases c2:i.op=17
 ·refine (own_look_tr c2 hi hr hpc hlt hd hl .here (.there (.there hcode))).mono ?_
  rintro v L' x' ⟨rfl,rfl,rfl⟩
  exact ⟨(av,al),by rw [own_ans (by omega)];exact e1,rfl,rfl,fun h st=>st⟩
 refine tr_pure (of_has (.there .here) (vec_shape (by omega))) ?_
 rintro ⟨aa,an,ac,rfl,hlen,_,ha,ha2⟩
 have han:al.length=an:=ans_len hlen
 have hal:al.length=t.ans.length:=by rw [← e1,List.length_map]
 obtain ⟨⟨ab,ao,sp⟩,rfl⟩:∃ y,aa=some y:=by
  cases aa with
  | none=>have:=ha rfl;omega
  | some y=>exact ⟨y,rfl⟩
 cases ha2 _ rfl
 by_cases c3:i.op≤21
 ·refine own_turns_tr ⟨by omega,by omega⟩ hpc fun xb=>?_
  refine Tr.post (turns_jump_tr ⟨by omega,c3⟩ hi hr (by omega) (.there .here)) ?_
  rintro v L' x' ⟨rfl,rfl,rfl⟩
  refine ⟨_,⟨rfl,(.slice (some ⟨ab,ao,none⟩) an ac,al),by rw [own_ans (by omega)];exact e1,rfl,rfl,fun h st=>st⟩,fun h st=>?_⟩
  exact (Ent.take .here (.drop .refl)).star st
 ·have c4:i.op=22:=by omega
  obtain ⟨⟨d,tv,told⟩,hk⟩:∃ y,al[t.call]?=some y:=⟨al[t.call]'(by omega),by simp⟩
  have hcs:(al.map ansV).flatten[2*t.call+1]?=some tv:=by rw [flat_get (k:=2) (fun _=>rfl) al _ _ _ hk (by omega)];rfl
  have hm:(al.map ansT)[t.call]?=some (vec 1 tv (told.map num)):=by rw [List.getElem?_map,hk];rfl
  have hbt:told.length<1000000000:=hb (d,told) (by
   rw [← e1]
   exact List.mem_map.2 ⟨_,List.mem_of_getElem? hk,rfl⟩)
  refine own_turns_tr ⟨by omega,by omega⟩ hpc fun xb=>?_
  refine tr_star (arr tb 0 (thCells (cw.v t.calls.length) { t with pc:=t.pc+1 } (.slice (some ⟨ab,ao,none⟩) an ac))::vec 2 (.slice (some ⟨ab,ao,none⟩) an ac) (al.map ansV).flatten::vec 1 tv (told.map num)::all ((al.map ansT).eraseIdx t.call)::F) (fun h st=>?_) ?_
  ·exact star_map (star_drop st) (fun _ z=>z) (fun _ st=>star_map st (fun _ z=>z) (fun _ st=>star_pick hm st))
  refine Tr.post (turns_tell_tr (told:=told) c4 hi hr (by omega) hcs hbt) ?_
  rintro v L' x' ⟨tv',rfl,rfl,rfl⟩
  refine ⟨_,⟨rfl,(.slice (some ⟨ab,ao,none⟩) an ac,al.set t.call (d,tv',told++[t.r i.a])),?_,rfl,rfl,fun h st=>st⟩,fun h st=>?_⟩
  ·rw [tell_ans e1 hk]
   obtain ⟨op,on,a,b,c,dd,n⟩:=i
   simp only at c4
   subst c4
   rfl
  ·have e2:Mach.own t i={ t with pc:=t.pc+1,ans:=(t.tell (t.r i.a)).ans }:=by
    obtain ⟨op,on,a,b,c,dd,n⟩:=i
    simp only at c4
    subst c4
    rfl
   rw [e2]
   show Star (arr tb 0 (thCells (cw.v t.calls.length) _ _)::vec 2 _ ((al.set t.call (d,tv',told++[t.r i.a])).map ansV).flatten::all ((al.set t.call (d,tv',told++[t.r i.a])).map ansT)::F) h
   rw [← flat_set (k:=2) (fun _=>rfl) al t.call 1 (d,tv,told) _ hk (by omega) (v:=tv') rfl,List.map_set]
   exact star_map st (fun _ z=>z) (fun _ st=>star_map st (fun _ z=>z) (fun _ st=>star_put (by simp;omega) st))
end
section
structure Good (cs:List Mach.Cl) (t:Mach.Th) (k:Nat):Prop where
 calls:t.calls=cs
 ok:(cs.all Mach.Cl.ok)=true
 len:cs.length<1000000
 pc:t.pc<1000000
 call:t.call≤cs.length
 ans1:t.call≤t.ans.length
 ans2:t.ans.length≤t.call+1
 room:∀ y∈t.ans,y.2.length+k<1000000000
theorem Good.begun {cs:List Mach.Cl} {t:Mach.Th} {k:Nat} (g:Good cs t k) (hk:k<1000000000):Good cs t.begun k:=by
 unfold Mach.Th.begun
 split
 ·refine ⟨g.calls,g.ok,g.len,g.pc,g.call,by simp;omega,by simp;omega,fun y hy=>?_⟩
  rcases List.mem_append.1 hy with hy | hy
  ·exact g.room y hy
  ·cases List.mem_singleton.1 hy;simpa using hk
 ·exact g
theorem begun_ans {cs:List Mach.Cl} {t:Mach.Th} {k:Nat} (g:Good cs t k):t.begun.call=t.call∧t.call<t.begun.ans.length:=by
 unfold Mach.Th.begun
 split
 ·exact ⟨rfl,by simp;omega⟩
 ·exact ⟨rfl,by have:=g.ans1;omega⟩
theorem mem_modify {α:Type} {f:α→α}:∀ {l:List α} {i:Nat} {y:α},y∈l.modify i f→y∈l∨∃ z∈l,y=f z:=by
 intro l
 induction l with
 | nil=>intro i y h;simp at h
 | cons a l ih =>
  intro i y h
  cases i with
  | zero =>
   simp only [List.modify_zero_cons,List.mem_cons] at h
   rcases h with h | h
   ·exact .inr ⟨a,by simp,h⟩
   ·exact .inl (by simp [h])
  | succ i =>
   simp only [List.modify_succ_cons,List.mem_cons] at h
   rcases h with h | h
   ·exact .inl (by simp [h])
   ·rcases ih h with h | ⟨z,h1,h2⟩
    ·exact .inl (by simp [h])
    ·exact .inr ⟨z,by simp [h1],h2⟩
theorem Good.done {cs:List Mach.Cl} {t:Mach.Th} {k:Nat} (g:Good cs t k) (h:t.call<t.ans.length) (hl:t.call<cs.length):Good cs t.done k:=by
 refine ⟨g.calls,g.ok,g.len,by show 0<1000000;omega,by show t.call+1≤_;omega,?_,?_,fun y hy=>?_⟩
 ·show t.call+1≤(t.ans.modify _ _).length;rw [List.length_modify];omega
 ·show (t.ans.modify _ _).length≤t.call+1+1;rw [List.length_modify];have:=g.ans2;omega
 ·rcases mem_modify hy with h | ⟨z,h1,rfl⟩
  ·exact g.room y h
  ·exact g.room z h1
theorem own_pc {t:Mach.Th} {i:Mach.In}:(Mach.own t i).pc=t.pc+1∨(Mach.own t i).pc=i.n∧18≤i.op∧i.op≤21:=by
 obtain ⟨op,on,a,b,c,d,n⟩:=i
 unfold Mach.own Mach.Th.put Mach.Th.tell
 dsimp only
 split <;> (try split) <;> first | exact .inl rfl | exact .inr ⟨rfl,by omega,by omega⟩
theorem own_told {t:Mach.Th} {i:Mach.In} {k:Nat} (h:∀ y∈t.ans,y.2.length+(k+1)<1000000000):∀ y∈(Mach.own t i).ans,y.2.length+k<1000000000:=by
 intro y hy
 by_cases e:i.op=22
 ·have e2:(Mach.own t i).ans=(t.tell (t.r i.a)).ans:=by
   obtain ⟨op,on,a,b,c,dd,n⟩:=i
   simp only at e
   subst e
   rfl
  rw [e2] at hy
  rcases mem_modify hy with h1 | ⟨z,h1,rfl⟩
  ·have:=h y h1;omega
  ·have:=h z h1
   simp only [List.length_append,List.length_cons,List.length_nil];omega
 ·rw [own_ans e] at hy
  have:=h y hy;omega
theorem own_len {t:Mach.Th} {i:Mach.In}:(Mach.own t i).ans.length=t.ans.length:=by
 by_cases e:i.op=22
 ·have e2:(Mach.own t i).ans=(t.tell (t.r i.a)).ans:=by
   obtain ⟨op,on,a,b,c,dd,n⟩:=i
   simp only at e
   subst e
   rfl
  rw [e2]
  show (t.ans.modify _ _).length=_
  rw [List.length_modify]
 ·rw [own_ans e]
theorem Good.next {cs:List Mach.Cl} {t:Mach.Th} {k:Nat} (g:Good cs t k) (hl:t.call<cs.length):t.next=Mach.fin∨t.next.ok=true∧t.pc+1<1000000:=by
 unfold Mach.Th.next Mach.Th.cl
 obtain ⟨cl,hcl⟩:∃ cl,t.calls[t.call]?=some cl:=⟨t.calls[t.call]'(by rw [g.calls];omega),by simp⟩
 rw [List.getD_eq_getElem?_getD,List.getD_eq_getElem?_getD,hcl,Option.getD_some]
 have hok:=List.all_eq_true.1 g.ok cl (by rw [← g.calls];exact List.mem_of_getElem? hcl)
 simp only [Mach.Cl.ok,Bool.and_eq_true,decide_eq_true_eq] at hok
 cases hp:cl.code[t.pc]? with
 | none=>exact .inl rfl
 | some y =>
  have:=(List.getElem?_eq_some_iff.1 hp).1
  exact .inr ⟨List.all_eq_true.1 hok.1.1.1 y (List.mem_of_getElem? hp),by omega⟩
theorem Good.own {cs:List Mach.Cl} {t:Mach.Th} {k:Nat} (g:Good cs t (k+1)) (hl:t.call<cs.length) (hn:t.next.op≠23):Good cs (Mach.own t t.next) k:=by
 obtain ⟨o1,o2,o3⟩:=own_calls (t:=t) (i:=t.next)
 rcases g.next hl with hf | ⟨hok,hpc⟩
 ·rw [hf] at hn;exact absurd rfl hn
 refine ⟨o1.trans g.calls,g.ok,g.len,?_,by rw [o2];exact g.call,by rw [o2,own_len];exact g.ans1,by rw [o2,own_len];exact g.ans2,own_told g.room⟩
 rcases own_pc (t:=t) (i:=t.next) with h | ⟨h,h2,h3⟩
 ·rw [h];exact hpc
 ·rw [h]
  simp only [Mach.In.ok,Bool.and_eq_true,decide_eq_true_eq,Bool.or_eq_true,Bool.not_eq_true',decide_eq_false_iff_not] at hok
  obtain ⟨⟨⟨_,hj⟩,_⟩,_⟩:=hok
  rcases hj with hj | hj
  ·simp at hj;omega
  ·exact hj
theorem Good.onF {cs:List Mach.Cl}:∀ {f:Nat} {t t':Mach.Th} {k:Nat},Good cs t (k+f)→k+f<1000000000→Mach.onF f t=some t'→Good cs t' k:=by
 intro f
 induction f with
 | zero=>intro t t' k g hk h;cases h
 | succ f ih =>
  intro t t' k g hk h
  have weak:∀ {t:Mach.Th} {m:Nat},Good cs t m→k≤m→Good cs t k:=fun g hm=>⟨g.calls,g.ok,g.len,g.pc,g.call,g.ans1,g.ans2,fun y hy=>by have:=g.room y hy;omega⟩
  unfold Mach.onF at h
  split at h
  ·cases h;exact weak g (by omega)
  split at h
  ·cases h;exact ⟨g.calls,g.ok,g.len,g.pc,g.call,g.ans1,g.ans2,fun y hy=>by have:=g.room y hy;omega⟩
  rename_i h1 h2
  have hl:t.call<cs.length:=by rw [← g.calls];omega
  have gb:=g.begun hk
  obtain ⟨b1,b2⟩:=begun_ans g
  split at h
  ·cases h;exact weak gb (by omega)
  split at h
  ·exact ih (k:=k) ⟨(gb.done (by rw [b1];exact b2) (by rw [b1];exact hl)).calls,g.ok,g.len,by show 0<1000000;omega,(gb.done (by rw [b1];exact b2) (by rw [b1];exact hl)).call,(gb.done (by rw [b1];exact b2) (by rw [b1];exact hl)).ans1,(gb.done (by rw [b1];exact b2) (by rw [b1];exact hl)).ans2,fun y hy=>by have:=(gb.done (by rw [b1];exact b2) (by rw [b1];exact hl)).room y hy;omega⟩ (by omega) h
  ·rename_i h3
   exact ih (k:=k) (Good.own (k:=k+f) gb (by rw [b1];exact hl) h3) (by omega) h
variable {B:Hand} [Lets B] {L F G:List HProp} {x:B.X}
def onInv (tb:Nat) (wv:Value) (cw:CW) (cs:List Mach.Cl) (x:B.X) (F:List HProp) (t':Mach.Th):Inv (Nat × Mach.Th) B.X where
 e:=fun _=>[(0,.pointer (some ⟨tb,0,none⟩)),(1,wv)]
 L:=fun i=>thC tb (cw.v cs.length) i.2::F
 x:=fun _=>x
 ok:=fun i=>Mach.onF i.1 i.2=some t'∧Good cs i.2 i.1∧i.1<1000000000
def onMid (tb:Nat) (wv:Value) (cw:CW) (cs:List Mach.Cl) (x:B.X) (F:List HProp) (f:Nat) (t:Mach.Th):Inv (Value × List (Bool × Value × List Nat)) B.X where
 e:=fun _=>[(0,.pointer (some ⟨tb,0,none⟩)),(1,wv)]
 L:=fun y=>thB tb (cw.v cs.length) t.begun y++F
 x:=fun _=>x
 ok:=fun y=>y.2.map ansOf=t.begun.ans
set_option maxHeartbeats 4000000 in
theorem on_tr {tb:Nat} {wv:Value} {cw:CW} {cs:List Mach.Cl} {t t':Mach.Th} {f:Nat} (ht:Mach.onF f t=some t') (g:Good cs t f) (hf:f<1000000000) (hh:Has L (thC tb (cw.v cs.length) t) F) (hcode:Obs F (codeC cw cs)) :
  Tr Try.prog B 60 [.pointer (some ⟨tb,0,none⟩),wv] L x fun v L' x'=>v=.tuple #[]∧L'=thC tb (cw.v cs.length) t'::F∧x'=x:=by
 refine tr_star _ (fun h s=>hh.star s) ?_
 clear hh
 refine tr_of_body Try.func60 rfl Try.ntmps60 (by simp) fun um Q _ hQ=>?_
 simp only [argE,Nat.zero_add,Nat.reduceAdd]
 refine we_block ?_
 refine we_loopN (onInv tb wv cw cs x F t') (fun i=>i.1) (f,t) ⟨ht,g,hf⟩ ⟨rfl,rfl,trivial⟩ .refl rfl ?_
 clear ht g t hf f
 rintro ⟨f,t⟩ ⟨ht,g,hf⟩
 dsimp only [onInv] at ht g hf ⊢
 obtain ⟨f,rfl⟩:∃ q,f=q+1:=by
  cases f with
  | zero=>cases ht
  | succ q=>exact ⟨q,rfl⟩
 refine we_ex .here fun y=>we_and .here fun e1=>we_and .here fun hr=>we_open .here ?_
 obtain ⟨av,al⟩:=y
 dsimp only at e1
 refine we_ent (arr tb 0 (thCells (cw.v cs.length) t av)::vec 2 av (al.map ansV).flatten::all (al.map ansT)::F) .refl ?_
 have hav:Rd (arr tb 0 (thCells (cw.v cs.length) t av)::vec 2 av (al.map ansV).flatten::all (al.map ansT)::F) tb 27 av:=Rd.row0 rfl
 have hov:Rd (arr tb 0 (thCells (cw.v cs.length) t av)::vec 2 av (al.map ansV).flatten::all (al.map ansT)::F) tb 28 (.bool t.over):=Rd.row0 rfl
 unfold Mach.onF at ht
 by_cases ho:t.over=true
 ·rw [if_pos ho] at ht
  cases ht
  rw [ho] at hov
  repeat (first | (apply wo_po;apply mo_load;exact rfl;exact hov;exact gY) | refine we_seq ?_ | (refine wR ?_;try simp only [oS]) | refine wo_nil ?_ | refine wM ?_ | refine wN ?_ | refine wD ?_ | (apply wo_po;apply mo_not;exact rfl;exact gY) | refine wF ?_ | refine we_exit ?_)
  refine at_star (thC tb (cw.v cs.length) t'::F) (fun h st=>th_close (y:=(av,al)) e1 hr st) ?_
  (first | refine or0 Try.func60 Try.results60 hQ ?_ | refine on0 Try.func60 Try.results60 hQ ?_)
  exact ⟨rfl,rfl,rfl⟩
 rw [if_neg ho] at ht
 rw [Bool.not_eq_true] at ho
 rw [ho] at hov
 have hcl:=g.calls
 rw [hcl] at ht
 by_cases hc:cs.length≤t.call
 ·rw [if_pos hc] at ht
  cases ht
  repeat (first | (apply wo_po;apply mo_load;exact rfl;exact hov;exact gY) | refine we_seq ?_ | (refine wR ?_;try simp only [oS]) | refine wo_nil ?_ | refine wM ?_ | refine wN ?_ | refine wD ?_ | (apply wo_po;apply mo_not;exact rfl;exact gY) | refine wT ?_ | refine we_skip ?_ | refine we_block ?_)
  refine we_draw (List.range' 0 10) (by kernel_rfl) ?_
  repeat (first | (apply ap_pure;exact rfl;exact rfl;exact trivial;intro L;apply mo_bin;exact rfl;exact rfl;apply bin_geqT;omega) | refine aM ?_ | refine aN ?_ | refine aD ?_ | (apply ap_pure;exact rfl;exact rfl;exact gY;intro L;apply mo_len;exact rfl) | refine aL ?_ | refine ap_end ?_)
  repeat (first | refine wS ?_ | refine we_seq ?_ | (refine wR ?_;try simp only [oS]) | refine wo_nil ?_ | refine wM ?_ | refine wN ?_ | refine wD ?_ | refine wT ?_ | refine we_ret ?_)
  refine at_star (thC tb (cw.v cs.length) { t with over:=true }::F) (fun h st=>th_close (t:={ t with over:=true }) (y:=(av,al)) e1 hr st) ?_
  (first | refine or0 Try.func60 Try.results60 hQ ?_ | refine on0 Try.func60 Try.results60 hQ ?_)
  exact ⟨rfl,rfl,rfl⟩
 rw [if_neg hc] at ht
 obtain ⟨b1,b2⟩:=begun_ans g
 have gb:=g.begun hf
 repeat (first | (apply wo_po;apply mo_load;exact rfl;exact hov;exact gY) | refine we_seq ?_ | (refine wR ?_;try simp only [oS]) | refine wo_nil ?_ | refine wM ?_ | refine wN ?_ | refine wD ?_ | (apply wo_po;apply mo_not;exact rfl;exact gY) | refine wT ?_ | refine we_skip ?_ | refine we_block ?_)
 refine we_draw (List.range' 0 10) (by kernel_rfl) ?_
 repeat (first | (apply ap_pure;exact rfl;exact rfl;exact trivial;intro L;apply mo_bin;exact rfl;exact rfl;apply bin_geqF;omega) | refine aM ?_ | refine aN ?_ | refine aD ?_ | (apply ap_pure;exact rfl;exact rfl;exact gY;intro L;apply mo_len;exact rfl) | refine aL ?_ | refine ap_end ?_)
 repeat (first | refine we_seq ?_ | refine wF ?_ | refine we_skip ?_)
 refine we_join2 (onMid tb wv cw cs x F f t) ?_ ?_
 ·-- the call's answer is begun
  refine we_pure (of_has (.there .here) (vec_shape (by omega))) ?_
  rintro ⟨aa,an,ac,rfl,hlen,_,ha,ha2⟩
  have han:al.length=an:=ans_len hlen
  have hal:al.length=t.ans.length:=by rw [← e1,List.length_map]
  by_cases hq:t.ans.length=t.call
  ·have hb:t.begun={ t with ans:=t.ans++[(false,[])] }:=by unfold Mach.Th.begun;rw [if_pos hq]
   refine we_draw (List.range' 0 10) (by kernel_rfl) ?_
   repeat (first | (apply ap_read;exact rfl;exact rfl;exact trivial;apply mo_load;exact rfl;exact hav) | (apply ap_pure;exact rfl;exact rfl;exact trivial;intro L;apply mo_bin;exact rfl;exact rfl;apply bin_eqlT;omega) | refine aM ?_ | refine aN ?_ | refine aD ?_ | (apply ap_pure;exact rfl;exact rfl;exact gY;intro L;apply mo_len;exact rfl) | refine aL ?_ | refine ap_end ?_)
   repeat (first | (apply wo_po;apply mo_load;exact rfl;exact hav;exact trivial) | (apply wo_po;apply mo_build (pv:=[]);exact rfl;exact .nil;exact rfl;exact trivial) | (apply wo_mo;apply mo_buildSlice (sz:=2) (vs:=[.agg #[.bool false,.slice none 0 0]]);exact rfl;exact .cons rfl .nil;exact rfl;(intro v hv;cases (List.mem_singleton.1 hv);exact rfl);omega;exact trivial) | (refine wR ?_;try simp only [oS]) | refine wM ?_ | refine wN ?_ | refine wD ?_ | refine wT ?_)
   rintro v' L' ⟨sb,rfl,rfl⟩
   repeat (first | (apply wo_mo;apply mo_append (sz:=2) (new:=[.bool false,.slice none 0 0]);exact rfl;exact rfl;exact rfl;exact rfl;exact .there (.there .here);exact rfl;exact .inr ⟨_,_,rfl,Rds.all .here⟩;(intro v hv;simp at hv;rcases hv with rfl | rfl <;> rfl);(simp only [sliceLen];have:=g.call;have:=g.len;omega);exact trivial))
   rintro v' L' rfl
   refine wo_pure (of_has .here (vec_shape (by omega))) ?_
   rintro ⟨qa,ql,qc,rfl,_⟩
   repeat (first | refine wS ?_ | refine wo_nil ?_ | refine wN ?_ | refine wD ?_)
   refine at_midS (I:=onMid tb wv cw cs x F f t) (.slice qa ql qc,al++[(false,.slice none 0 0,[])]) ?_ ⟨rfl,rfl,trivial⟩ (fun h st=>?_) rfl
   ·show (al++[(false,Value.slice none 0 0,[])]).map ansOf=_
    rw [hb,List.map_append,e1];rfl
   ·show Star (arr tb 0 (thCells (cw.v cs.length) t.begun (.slice qa ql qc))::vec 2 (.slice qa ql qc) ((al++[(false,Value.slice none 0 0,[])]).map ansV).flatten::all ((al++[(false,Value.slice none 0 0,[])]).map ansT)::F) h
    rw [hb,List.map_append,List.map_append,List.flatten_append]
    have st2:Star (arr tb 0 (thCells (cw.v cs.length) t (.slice qa ql qc))::vec 2 (.slice qa ql qc) ((al.map ansV).flatten++[.bool false,.slice none 0 0])::all (al.map ansT)::F) h:=by
     refine Ent.star ?_ st
     exact .take (.there (.there .here)) (.take .here (.drop .refl))
    exact star_map st2 (fun _ z=>z) (fun _ z=>star_map z (fun _ z=>z) (fun _ z=>star_push (vec_nil z)))
  ·have hb:t.begun=t:=by unfold Mach.Th.begun;rw [if_neg hq]
   refine we_draw (List.range' 0 10) (by kernel_rfl) ?_
   repeat (first | (apply ap_read;exact rfl;exact rfl;exact trivial;apply mo_load;exact rfl;exact hav) | (apply ap_pure;exact rfl;exact rfl;exact trivial;intro L;apply mo_bin;exact rfl;exact rfl;apply bin_eqlF;omega) | refine aM ?_ | refine aN ?_ | refine aD ?_ | (apply ap_pure;exact rfl;exact rfl;exact gY;intro L;apply mo_len;exact rfl) | refine aL ?_ | refine ap_end ?_)
   repeat (first | refine wF ?_ | refine we_skip ?_)
   refine at_mid (I:=onMid tb wv cw cs x F f t) (.slice aa an ac,al) ?_ ⟨rfl,rfl,trivial⟩ (ent_eq ?_) rfl
   ·show al.map ansOf=_
    rw [hb,e1]
   ·show _=arr tb 0 (thCells (cw.v cs.length) t.begun (.slice aa an ac))::_
    rw [hb];rfl
 clear e1 hov hav al av
 rintro ⟨av,al⟩ e1
 dsimp only [onMid] at e1 ⊢
 repeat (first | refine we_seq ?_ | (refine wR ?_;try simp only [oS]) | refine wM ?_)
 have hltb:t.begun.call<cs.length:=by rw [b1];omega
 obtain ⟨cl,hcl2⟩:∃ cl,cs[t.begun.call]?=some cl:=⟨cs[t.begun.call],by simp [hltb]⟩
 have hclB:t.begun.calls=cs:=gb.calls
 have hnx:t.begun.next=cl.code.getD t.begun.pc Mach.fin:=by unfold Mach.Th.next Mach.Th.cl;rw [hclB,List.getD_eq_getElem?_getD (l:=cs),hcl2];rfl
 have hrB:∀ j,t.begun.r j<18446744073709551616:=by unfold Mach.Th.begun;split <;> exact hr
 refine wo_pure (fun h st=>code_at (.there (.there (.there hcode))) hcl2 h st) ?_
 rintro ⟨cb,co,hca⟩
 have q1:Rd (thB tb (cw.v cs.length) t.begun (av,al)++F) cb (co+2*t.begun.call) _:=(rd_code (.there (.there (.there hcode))) hcl2 hca).1
 have hn:=next_tr (B:=B) (L:=thB tb (cw.v cs.length) t.begun (av,al)++F) (x:=x) (tb:=tb) (cb:=cb) (co:=co) (ncalls:=cs.length) (ccap:=cw.c) (call:=t.begun.call) (pc:=t.begun.pc) (code:=cl.code)
  (Rd.row0 (by unfold CW.v;rw [hca];rfl)) (Rd.row0 rfl) (Rd.row0 rfl) hltb q1
 refine wo_pure (p:=∀ y,cl.code[t.begun.pc]?=some y→∃ kb ko,(cw.k t.begun.call).1=some ⟨kb,ko,none⟩) (fun h st y hy=>(rd_instr (.there (.there (.there hcode))) hcl2 hy).1 h st) ?_
 intro hk
 replace hn:=hn fun y hy=>by
  obtain ⟨kb,ko,e⟩:=hk y hy
  exact ⟨kb,ko,e,(rd_instr (.there (.there (.there hcode))) hcl2 hy).2 kb ko e⟩
 rw [← hnx] at hn
 refine wo_call (.cons rfl .nil) trivial hn ?_
 rintro v' L' x' ⟨rfl,rfl,rfl⟩
 obtain ⟨y,hy⟩:∃ y,y=t.begun.next:=⟨_,rfl⟩
 rw [← hy]
 have hy23:y.op≤23:=by
  rcases gb.next hltb with h | ⟨h,_⟩
  ·rw [hy,h];decide
  ·rw [← hy] at h
   simp only [Mach.In.ok,Bool.and_eq_true,decide_eq_true_eq] at h
   omega
 repeat (first | (apply wo_mo;apply mo_alloc;exact trivial))
 rintro v' L' ⟨ib,rfl,rfl⟩
 repeat (first | (apply wo_pm;apply mo_storeA (c:=0) (k:=0) (a:=0) (vs:=inC { op:=0 }) (v:=.agg (inC y).toArray);exact rfl;exact rfl;exact rfl;(intro w hw;simp [Value.cells,inC] at hw;rcases hw with rfl | rfl | rfl | rfl | rfl | rfl | rfl <;> rfl);exact rfl;exact Nat.le_refl 7;exact .here;exact trivial) | refine we_seq ?_ | (refine wR ?_;try simp only [oS]) | refine wo_nil ?_ | refine wD ?_ | refine wL ?_)
 refine wo_call (.cons rfl .nil) trivial (told_tr (by omega)) ?_
 rintro v' L' x' ⟨rfl,rfl,rfl⟩
 refine wo_ent (arr ib 0 (inC y)::thB tb (cw.v cs.length) t.begun (av,al)++F) .refl ?_
 rw [← hy] at ht
 cases htold:Mach.told y.op with
 | true =>
  rw [if_pos htold] at ht
  cases ht
  repeat (first | refine wo_nil ?_ | refine wT ?_ | refine we_ret ?_)
  refine at_star (thC tb (cw.v cs.length) t.begun::F) (fun h st=>th_close (y:=(av,al)) e1 hrB (star_drop st)) ?_
  (first | refine or0 Try.func60 Try.results60 hQ ?_ | refine on0 Try.func60 Try.results60 hQ ?_)
  exact ⟨rfl,rfl,rfl⟩
 | false =>
  rw [if_neg (by rw [htold];decide)] at ht
  by_cases hfin:y.op=23
  ·rw [if_pos hfin] at ht
   have hfin':(y.op:Int)=23:=by omega
   repeat (first | (apply wo_po;apply mo_bin;exact rfl;exact rfl;apply bin_eqlT;exact hfin';exact gY) | refine we_seq ?_ | (refine wR ?_;try simp only [oS]) | refine wo_nil ?_ | refine wD ?_ | refine wL ?_ | refine wT ?_ | refine wF ?_ | refine we_skip ?_)
   have hlenb:=g.len
   refine we_pure (of_has (.there (.there .here)) (vec_shape (by omega))) ?_
   rintro ⟨aa,an,ac,rfl,hlen,_,ha,ha2⟩
   have han:al.length=an:=ans_len hlen
   have hal:al.length=t.begun.ans.length:=by rw [← e1,List.length_map]
   obtain ⟨⟨ab,ao,sp⟩,rfl⟩:∃ y,aa=some y:=by
    cases aa with
    | none=>have:an=0:=ha rfl;omega
    | some y=>exact ⟨y,rfl⟩
   cases ha2 _ rfl
   obtain ⟨⟨d,tv,told⟩,hk2⟩:∃ y,al[t.begun.call]?=some y:=⟨al[t.begun.call]'(by omega),by simp⟩
   have hlenc:2*t.begun.call<((al.map ansV).flatten).length:=by rw [flat_len (k:=2) (fun _=>rfl)];omega
   refine we_ent (arr ib 0 (inC y)::arr tb 0 (thCells (cw.v cs.length) t.begun (.slice (some ⟨ab,ao,none⟩) an ac))::vec 2 (.slice (some ⟨ab,ao,none⟩) an ac) (al.map ansV).flatten::all (al.map ansT)::F) .refl ?_
   have hav:Rd (arr ib 0 (inC y)::arr tb 0 (thCells (cw.v cs.length) t.begun (.slice (some ⟨ab,ao,none⟩) an ac))::vec 2 (.slice (some ⟨ab,ao,none⟩) an ac) (al.map ansV).flatten::all (al.map ansT)::F) tb 27 (.slice (some ⟨ab,ao,none⟩) an ac):=.there (.row0 rfl)
   refine we_draw (List.range' 0 11) (by kernel_rfl) ?_
   repeat (first | (apply ap_read;exact rfl;exact rfl;exact trivial;apply mo_load;exact rfl;exact hav) | (apply ap_pure;exact rfl;exact rfl;exact trivial;intro L;apply mo_index2;exact rfl;exact rfl;omega) | refine aM ?_ | refine aN ?_ | refine aD ?_ | refine aL ?_)
   refine ap_loud rfl rfl rfl rfl rfl trivial (mo_store rfl rfl rfl (wt_vec (i:=2*t.begun.call) (.there (.there .here)) hlenc)) ?_
   rintro v' L' ⟨rfl,rfl⟩
   refine ap_end ?_
   repeat (first | refine wS ?_ | (apply wo_po;apply mo_buildArr (pv:=[]);exact rfl;exact .nil;exact rfl;exact trivial) | refine we_seq ?_ | (refine wR ?_;try simp only [oS]) | refine wo_nil ?_ | refine wM ?_ | refine wN ?_ | refine wD ?_ | refine wL ?_ | refine wadd ?_)
   refine wo_ent (vec 2 (.slice (some ⟨ab,ao,none⟩) an ac) ((al.map ansV).flatten.set (2*t.begun.call) (.bool true))::arr ib 0 (inC y)::arr tb 0 (thCells (cw.v cs.length) { t.begun with call:=t.begun.call+1,pc:=0 } (.slice (some ⟨ab,ao,none⟩) an ac))::all (al.map ansT)::F) .refl ?_
   refine wo_pm (mo_storeA (c:=0) (k:=3) (a:=3) rfl rfl rfl (List.all_eq_true.1 rfl) rfl (Nat.le_of_ble_eq_true rfl) (.there (.there .here))) trivial ?_
   repeat (first | refine wo_nil ?_ | refine we_exit ?_)
   refine at_roundS (I:=onInv tb wv cw cs x' F t') (R:=fun i'=>i'.1<f+1) (f,t.begun.done) (by simp) ⟨ht,?_,by omega⟩ ⟨rfl,rfl,trivial⟩ (fun h st=>?_) rfl
   ·have gd:=gb.done (by rw [b1];exact b2) hltb
    exact ⟨gd.calls,gd.ok,gd.len,gd.pc,gd.call,gd.ans1,gd.ans2,fun z hz=>by have:=gd.room z hz;omega⟩
   ·have hm:(al.set t.begun.call (true,tv,told)).map ansOf=t.begun.done.ans:=by
     show _=t.begun.ans.modify t.begun.call fun y=>(true,y.2)
     rw [← e1]
     apply List.ext_getElem?
     intro j
     have hlt:t.begun.call<al.length:=(List.getElem?_eq_some_iff.1 hk2).1
     rw [List.getElem?_map,List.getElem?_modify,List.getElem?_map,List.getElem?_set]
     by_cases e:t.begun.call=j
     ·subst e;rw [if_pos rfl,if_pos hlt,hk2];show some _=some _;simp [ansOf]
     ·simp [e]
    refine th_close (y:=(.slice (some ⟨ab,ao,none⟩) an ac,al.set t.begun.call (true,tv,told))) hm (fun _=>by show 0<18446744073709551616;omega) ?_
    show Star (arr tb 0 (thCells (cw.v cs.length) t.begun.done (.slice (some ⟨ab,ao,none⟩) an ac))::vec 2 (.slice (some ⟨ab,ao,none⟩) an ac) ((al.set t.begun.call (true,tv,told)).map ansV).flatten::all ((al.set t.begun.call (true,tv,told)).map ansT)::F) h
    rw [← flat_set (k:=2) (fun _=>rfl) al t.begun.call 0 (d,tv,told) _ hk2 (by omega) (v:=.bool true) rfl,Nat.add_zero]
    have hT:(al.set t.begun.call (true,tv,told)).map ansT=al.map ansT:=by
     rw [List.map_set]
     apply List.ext_getElem?
     intro j
     rw [List.getElem?_set]
     by_cases e:t.begun.call=j
     ·subst e
      rw [if_pos rfl,List.getElem?_map,hk2,if_pos (by simp;exact (List.getElem?_eq_some_iff.1 hk2).1)];rfl
     ·rw [if_neg e]
    rw [hT]
    refine Ent.star ?_ st
    exact .take (.there (.there .here)) (.take .here (.drop .refl))
  ·rw [if_neg hfin] at ht
   have hfin':¬ (y.op:Int)=23:=by omega
   have hyok:y.ok=true:=by
    rcases gb.next hltb with h | ⟨h,_⟩
    ·rw [hy,h] at hfin;exact absurd rfl hfin
    ·rw [hy];exact h
   have hy6:6≤y.op∧y.op≤22:=by
    simp only [Mach.In.ok,Bool.and_eq_true,decide_eq_true_eq] at hyok
    simp only [Mach.told,Bool.and_eq_false_iff,decide_eq_false_iff_not] at htold
    omega
   have gn:=Good.own (k:=f) gb hltb (by rw [← hy];exact hfin)
   rw [← hy] at gn
   have hx:Rds (arr ib 0 (inC y)::thB tb (cw.v cs.length) t.begun (av,al)++F) ib 0 (inC y):=Rds.all .here
   repeat (first | (apply wo_po;apply mo_bin;exact rfl;exact rfl;apply bin_eqlF;exact hfin';exact gY) | (apply wo_po;apply mo_loadA (vs:=inC y);exact rfl;exact rfl;exact hx;exact trivial) | refine we_seq ?_ | (refine wR ?_;try simp only [oS]) | refine wo_nil ?_ | refine wM ?_ | refine wD ?_ | refine wL ?_ | refine wF ?_ | refine we_skip ?_)
   refine wo_star (thC tb (cw.v cs.length) t.begun::arr ib 0 (inC y)::F) (fun h st=>th_close (y:=(av,al)) e1 hrB ?_) ?_
   ·exact (Ent.take (.there .here) (.take (.there .here) (.take (.there .here) .refl))).star st
   rw [← hclB] at hcode gn ⊢
   refine wo_call (.cons rfl (.cons rfl (.cons rfl .nil))) trivial (own_tr hy6 hyok gb.pc (by rw [hclB];exact hltb) (by rw [b1];exact b2) (by rw [hclB];exact g.ok) (by rw [hclB];exact g.len) (fun z hz=>by have:=gb.room z hz;omega) .here (.there hcode)) ?_
   rintro v' L' x'' ⟨rfl,rfl,rfl⟩
   rw [hclB] at gn ⊢
   repeat (first | refine wo_nil ?_)
   refine at_round (I:=onInv tb wv cw cs x'' F t') (R:=fun i'=>i'.1<f+1) (f,Mach.own t.begun y) (by simp) ⟨ht,gn,by omega⟩ ⟨rfl,rfl,trivial⟩ ?_ rfl
   exact .take .here (.drop .refl)
end
section
variable {B:Hand} [Lets B] {L F G:List HProp} {x:B.X}
def rowT (y:Value × List Nat):HProp:=vec 1 y.1 (y.2.map num)
def lstT (v:Value):HProp:=vec 2 v []
def lstC (lv:Value) (nl:Nat):HProp:=fun h=>∃ lw:List Value,lw.length=nl∧all [vec 1 lv lw,all (lw.map lstT)] h
def wdB (wv lv:Value) (wl:List (Value × List Nat)) (nl:Nat):List HProp:=[vec 1 wv (wl.map (·.1)),lstC lv nl,all (wl.map rowT)]
def wdC (wb:Nat) (w:Mach.Wd):HProp:=fun h=>∃ y:Value × Value × List (Value × List Nat),y.2.2.map (·.2)=w.words∧w.ok∧all (arr wb 0 [y.1,y.2.1]::wdB y.1 y.2.1 y.2.2 w.nl) h
omit [Lets B] in
theorem wd_close {wb:Nat} {w:Mach.Wd} {y:Value × Value × List (Value × List Nat)} (h1:y.2.2.map (·.2)=w.words) (h2:w.ok) {h:Hp} (s:Star ((arr wb 0 [y.1,y.2.1]::wdB y.1 y.2.1 y.2.2 w.nl)++F) h):Star (wdC wb w::F) h :=
 star_map (star_shut s) (fun _ z=>⟨y,h1,h2,z⟩) (fun _ z=>z)
omit [Lets B] in
theorem tr_wd {wb:Nat} {w:Mach.Wd} {f:FuncId} {args:List Value} {R:Value→List HProp→B.X→Prop} (hh:Has L (wdC wb w) F)
  (k:∀ y:Value × Value × List (Value × List Nat),y.2.2.map (·.2)=w.words→w.ok→Tr Try.prog B f args ((arr wb 0 [y.1,y.2.1]::wdB y.1 y.2.1 y.2.2 w.nl)++F) x R):Tr Try.prog B f args L x R :=
 tr_ex hh fun y=>tr_and .here fun h1=>tr_and .here fun h2=>tr_star _ (fun h st=>star_open st) (k y h1 h2)
theorem op1_len {y:Mach.In} {l:List Nat} {p:Nat} {r:Nat→Nat}:(Mach.op1 y l p r).1.length=l.length:=by
 unfold Mach.op1
 dsimp only
 split <;> (try split) <;> simp
theorem op1_lt {y:Mach.In} {l:List Nat} {p:Nat} {r:Nat→Nat} (hl:∀ v∈l,v<18446744073709551616) (hr:∀ j,r j<18446744073709551616):(∀ v∈(Mach.op1 y l p r).1,v<18446744073709551616)∧∀ j,(Mach.op1 y l p r).2 j<18446744073709551616:=by
 have hv:l.getD p 0<18446744073709551616:=by
  rw [List.getD_eq_getElem?_getD]
  cases h:l[p]? with
  | none=>decide
  | some v=>exact hl v (List.mem_of_getElem? h)
 have hs:∀ u,u<18446744073709551616→∀ v∈l.set p u,v<18446744073709551616:=fun u hu v hm=>by
  rcases List.mem_or_eq_of_mem_set hm with h | h
  ·exact hl v h
  ·omega
 have hu:∀ u,u<18446744073709551616→∀ j,upd r y.a u j<18446744073709551616:=fun u h j=>by
  unfold upd;split
  ·exact h
  ·exact hr j
 have hm:∀ n:Nat,n%18446744073709551616<18446744073709551616:=fun n=>Nat.mod_lt _ (by decide)
 unfold Mach.op1
 dsimp only
 split <;> (try split) <;> constructor <;> first | exact hl | exact hr | exact hs _ (hr _) | exact hs _ (hm _) | exact hu _ hv | exact hu _ (hm _) | exact hu _ (by decide)
theorem wd_op {w:Mach.Wd} {y:Mach.In} {p on:Nat} {r:Nat→Nat} (hw:w.ok) (hr:∀ j,r j<18446744073709551616):({ w with words:=w.words.set on (Mach.op1 y (w.row on) p r).1 }:Mach.Wd).ok:=by
 by_cases hon:on<w.words.length
 ·have hrow:w.row on∈w.words:=by
   unfold Mach.Wd.row
   rw [List.getD_eq_getElem?_getD,List.getElem?_eq_getElem hon];simp
  refine ⟨by simp;exact hw.n,hw.nl,fun l hl=>?_,fun l hl=>?_⟩
  ·rcases List.mem_or_eq_of_mem_set hl with h | rfl
   ·exact hw.len l h
   ·rw [op1_len];exact hw.len _ hrow
  ·rcases List.mem_or_eq_of_mem_set hl with h | rfl
   ·exact hw.lt l h
   ·exact (op1_lt (hw.lt _ hrow) hr).1
 ·rw [List.set_eq_of_length_le (by omega)];exact hw
theorem op1_1 {y:Mach.In} {l:List Nat} {p:Nat} {r:Nat→Nat} (h:y.op=1):Mach.op1 y l p r=(l,upd r y.a (l.getD p 0)):=by cases y;simp only at h;subst h;rfl
theorem op1_2 {y:Mach.In} {l:List Nat} {p:Nat} {r:Nat→Nat} (h:y.op=2):Mach.op1 y l p r=(l.set p (r y.a),r):=by cases y;simp only at h;subst h;rfl
theorem op1_3 {y:Mach.In} {l:List Nat} {p:Nat} {r:Nat→Nat} (h:y.op=3):Mach.op1 y l p r=(l.set p ((l.getD p 0+r y.c)%18446744073709551616),upd r y.a ((l.getD p 0+r y.c)%18446744073709551616)):=by cases y;simp only at h;subst h;rfl
theorem op1_4 {y:Mach.In} {l:List Nat} {p:Nat} {r:Nat→Nat} (h:y.op=4):Mach.op1 y l p r=(l.set p (r y.c),upd r y.a (l.getD p 0)):=by cases y;simp only at h;subst h;rfl
theorem op1_5 {y:Mach.In} {l:List Nat} {p:Nat} {r:Nat→Nat} (h:y.op=5):Mach.op1 y l p r=if l.getD p 0=r y.c then (l.set p (r y.d),upd r y.a 1) else (l,upd r y.a 0):=by cases y;simp only at h;subst h;rfl
theorem map_num_set {l:List Nat} {p v:Nat}:(l.map num).set p (num v)=(l.set p v).map num:=by rw [List.map_set]
omit [Lets B] in
theorem op_back {tb wb on:Nat} {cv av wv lv iv:Value} {t:Mach.Th} {al:List (Bool × Value × List Nat)} {wl:List (Value × List Nat)} {w:Mach.Wd} {l row':List Nat} {M:List HProp} (e1:al.map ansOf=t.ans) (hr:∀ j,t.r j<18446744073709551616) (e2:wl.map (·.2)=w.words) (hon:wl[on]?=some (iv,l))
  (hok:({ w with words:=w.words.set on row' }:Mach.Wd).ok) {h:Hp}
  (s:Star (arr tb 0 (thCells cv t av)::vec 1 iv (row'.map num)::arr wb 0 [wv,lv]::vec 1 wv (wl.map (·.1))::all ((wl.map rowT).eraseIdx on)::lstC lv w.nl::vec 2 av (al.map ansV).flatten::all (al.map ansT)::M) h) :
  Star (thC tb cv t::wdC wb { w with words:=w.words.set on row' }::M) h:=by
 have hlt:on<wl.length:=(List.getElem?_eq_some_iff.1 hon).1
 have s1:Star (vec 1 iv (row'.map num)::all ((wl.map rowT).eraseIdx on)::arr wb 0 [wv,lv]::vec 1 wv (wl.map (·.1))::lstC lv w.nl::arr tb 0 (thCells cv t av)::vec 2 av (al.map ansV).flatten::all (al.map ansT)::M) h:=by
  refine Ent.star ?_ s
  exact .take (.there .here) (.take (.there (.there (.there .here))) (.take (.there .here) (.take (.there .here) (.take (.there .here) (.take .here .refl)))))
 have s2:=star_put (M:=wl.map rowT) (by simpa using hlt) s1
 have hs:(wl.map rowT).set on (vec 1 iv (row'.map num))=(wl.set on (iv,row')).map rowT:=by rw [List.map_set];rfl
 have hf:(wl.set on (iv,row')).map (·.1)=wl.map (·.1):=by
  rw [List.map_set]
  apply List.ext_getElem?
  intro j
  rw [List.getElem?_set]
  by_cases e:on=j
  ·subst e;rw [if_pos rfl,if_pos (by simpa using hlt),List.getElem?_map,hon];rfl
  ·rw [if_neg e]
 rw [hs] at s2
 have s3:Star ((arr wb 0 [wv,lv]::wdB wv lv (wl.set on (iv,row')) w.nl)++(arr tb 0 (thCells cv t av)::vec 2 av (al.map ansV).flatten::all (al.map ansT)::M)) h:=by
  unfold wdB
  rw [hf]
  refine Ent.star ?_ s2
  exact .take (.there .here) (.take (.there .here) (.take (.there .here) (.take .here .refl)))
 have s4:=wd_close (w:={ w with words:=w.words.set on row' }) (y:=(wv,lv,wl.set on (iv,row'))) (by show (wl.set on (iv,row')).map (·.2)=w.words.set on row';rw [List.map_set,e2]) hok s3
 have s5:Star (thB tb cv t (av,al)++(wdC wb { w with words:=w.words.set on row' }::M)) h:=by
  refine Ent.star ?_ s4
  exact .take (.there .here) (.take (.there .here) (.take (.there .here) (.take .here .refl)))
 exact th_close e1 hr s5
def opMid (tb xb mb:Nat) (wv cv av iv:Value) (y:Mach.In) (t:Mach.Th) (l:List Nat) (p:Nat) (G:List HProp) (x:B.X):Inv Unit B.X where
 e:=fun _=>[(0,.pointer (some ⟨tb,0,none⟩)),(1,wv),(4,.pointer (some ⟨mb,0,none⟩)),(5,.pointer (some ⟨xb,0,none⟩)),(7,.int .i64 (p:Nat))]
 L:=fun _=>arr xb 0 (inC y)::arr mb 0 [.int .u8 0,.int .i64 0]::arr tb 0 (thCells cv { t with r:=(Mach.op1 y l p t.r).2 } av)::vec 1 iv ((Mach.op1 y l p t.r).1.map num)::G
 x:=fun _=>x
 ok:=fun _=>True
set_option maxHeartbeats 8000000 in
theorem op_tr {tb wb:Nat} {cw:CW} {cs:List Mach.Cl} {w w':Mach.Wd} {t t':Mach.Th} {f:Nat} (ho:Mach.opF f w t=some (w',t')) (g:Good cs t (f+1)) (hf:f+1<1000000000) (hlt:t.call<cs.length) (htold:Mach.told t.next.op=true)
  (hh:Has L (thC tb (cw.v cs.length) t) F) (hw:Has F (wdC wb w) G) (hcode:Obs G (codeC cw cs)) :
  Tr Try.prog B 61 [.pointer (some ⟨tb,0,none⟩),.pointer (some ⟨wb,0,none⟩)] L x fun v L' x'=>v=.agg #[.int .u8 (t.mark.1:Nat),.int .i64 (t.mark.2:Nat)]∧L'=thC tb (cw.v cs.length) t'::wdC wb w'::G∧x'=x:=by
 refine Tr.post (R:=fun v L' x'=>v=.agg #[.int .u8 (t.mark.1:Nat),.int .i64 (t.mark.2:Nat)]∧x'=x∧∀ h,Star L' h→Star (thC tb (cw.v cs.length) t'::wdC wb w'::G) h) ?_ (by rintro v L' x' ⟨rfl,rfl,hs⟩;exact ⟨_,⟨rfl,rfl,rfl⟩,hs⟩)
 refine tr_star (thC tb (cw.v cs.length) t::wdC wb w::G) (fun h s=>star_map (hh.star s) (fun _ z=>z) (fun _ z=>hw.star z)) ?_
 clear hh hw
 refine tr_th .here ?_
 rintro ⟨av,al⟩ e1 hr
 refine tr_wd (.there (.there (.there .here))) ?_
 rintro ⟨wv,lv,wl⟩ e2 hwok
 dsimp only at e1 e2
 -- the operation
 unfold Mach.opF at ho
 obtain ⟨y,hy⟩:∃ y,y=t.next:=⟨_,rfl⟩
 obtain ⟨p,hp⟩:∃ p,p=t.place:=⟨_,rfl⟩
 obtain ⟨l,hl⟩:∃ l,l=w.row y.on:=⟨_,rfl⟩
 rw [← hy,← hp,← hl] at ho
 by_cases hpl:p<l.length
 case neg=>rw [if_neg hpl] at ho;cases ho
 rw [if_pos hpl] at ho
 dsimp only at ho
 have hyok:y.ok=true:=by
  rcases g.next hlt with h | ⟨h,_⟩
  ·rw [h] at htold;cases htold
  ·rw [hy];exact h
 rw [← hy] at htold
 have hpc:t.pc+1<1000000:=by
  rcases g.next hlt with h | ⟨_,h⟩
  ·rw [← hy] at h;rw [h] at htold;cases htold
  ·exact h
 obtain ⟨kk,hkk⟩:∃ kk,kk=y.op:=⟨_,rfl⟩
 have hyok2:=hyok
 simp only [Mach.In.ok,Bool.and_eq_true,decide_eq_true_eq,Bool.or_eq_true,Bool.not_eq_true',decide_eq_false_iff_not] at hyok2
 obtain ⟨⟨⟨⟨⟨⟨⟨⟨⟨⟨_,_⟩,ha⟩,hb⟩,hc⟩,hd⟩,hon⟩,hn⟩,_⟩,_⟩,_⟩:=hyok2
 have h15:1≤y.op∧y.op≤5:=by simpa [Mach.told] using htold
 have hplace:(t.r y.b+y.n)%18446744073709551616=p:=by rw [hp,hy];rfl
 -- the row that it is on
 have honl:y.on<wl.length:=by
  have h1:¬ w.words.length≤y.on:=fun h=>by
   rw [hl] at hpl;unfold Mach.Wd.row at hpl
   rw [List.getD_eq_getElem?_getD,List.getElem?_eq_none h] at hpl;simp at hpl
  rw [← e2,List.length_map] at h1;omega
 obtain ⟨⟨iv,l2⟩,hwl⟩:∃ z,wl[y.on]?=some z:=⟨wl[y.on],by simp [honl]⟩
 have hl2:l2=l:=by
  rw [hl];unfold Mach.Wd.row
  rw [← e2,List.getD_eq_getElem?_getD,List.getElem?_map,hwl];rfl
 subst hl2
 have hlm:l2∈w.words:=by rw [← e2];exact List.mem_map.2 ⟨_,List.mem_of_getElem? hwl,rfl⟩
 have hll:=hwok.len _ hlm
 have hlv:=hwok.lt _ hlm
 have hwn:wl.length<1000000:=by have:=hwok.n;rw [← e2,List.length_map] at this;exact this
 refine tr_star (arr tb 0 (thCells (cw.v cs.length) t av)::vec 1 iv (l2.map num)::arr wb 0 [wv,lv]::vec 1 wv (wl.map (·.1))::all ((wl.map rowT).eraseIdx y.on)::lstC lv w.nl::vec 2 av (al.map ansV).flatten::all (al.map ansT)::G) (fun h s=>?_) ?_
 ·have s1:Star (all (wl.map rowT)::arr wb 0 [wv,lv]::vec 1 wv (wl.map (·.1))::lstC lv w.nl::arr tb 0 (thCells (cw.v cs.length) t av)::vec 2 av (al.map ansV).flatten::all (al.map ansT)::G) h:=by
   refine Ent.star ?_ s
   exact .take (.there (.there (.there .here))) (.take .here (.take .here (.take .here .refl)))
  have s2:=star_pick (i:=y.on) (c:=rowT (iv,l2)) (by rw [List.getElem?_map,hwl];rfl) s1
  refine Ent.star ?_ s2
  exact .take (.there (.there (.there (.there (.there .here))))) (.take .here (.take (.there .here) (.take (.there .here) (.take .here (.take .here .refl)))))
 obtain ⟨R,hR⟩:∃ R,R=all ((wl.map rowT).eraseIdx y.on)::lstC lv w.nl::vec 2 av (al.map ansV).flatten::all (al.map ansT)::G:=⟨_,rfl⟩
 rw [← hR]
 have hcodeR:∀ {d1 d2 d3 d4:HProp},Obs (d1::d2::d3::d4::R) (codeC cw cs):=fun {d1 d2 d3 d4}=>by rw [hR];exact .there (.there (.there (.there (.there (.there (.there (.there hcode)))))))
 -- shapes
 refine tr_pure (of_has (.there .here) (vec_shape (by omega))) ?_
 rintro ⟨ia,inn,ic,rfl,hin,_,hia,hia2⟩
 have hinn:inn=l2.length:=by simpa using hin.symm
 subst hinn
 obtain ⟨⟨ib,io,sp⟩,rfl⟩:∃ z,ia=some z:=by
  cases ia with
  | none=>have:=hia rfl;omega
  | some z=>exact ⟨z,rfl⟩
 cases hia2 _ rfl
 refine tr_pure (of_has (.there (.there (.there .here))) (vec_shape (by omega))) ?_
 rintro ⟨va,vn,vc,rfl,hvn,_,hva,hva2⟩
 have hvnn:vn=wl.length:=by simpa using hvn.symm
 subst hvnn
 obtain ⟨⟨vb,vo,sp⟩,rfl⟩:∃ z,va=some z:=by
  cases va with
  | none=>have:=hva rfl;omega
  | some z=>exact ⟨z,rfl⟩
 cases hva2 _ rfl
 -- the next instruction
 obtain ⟨cl,hcl⟩:∃ cl,cs[t.call]?=some cl:=⟨cs[t.call],by simp [hlt]⟩
 have hnx:y=cl.code.getD t.pc Mach.fin:=by rw [hy];unfold Mach.Th.next Mach.Th.cl;rw [g.calls,List.getD_eq_getElem?_getD (l:=cs),hcl];rfl
 obtain ⟨cv,hcv⟩:∃ cv,cv=cw.v cs.length:=⟨_,rfl⟩
 have hcode':=@hcodeR (arr tb 0 (thCells (cw.v cs.length) t av)) (vec 1 (.slice (some ⟨ib,io,none⟩) l2.length ic) (l2.map num)) (arr wb 0 [.slice (some ⟨vb,vo,none⟩) wl.length vc,lv]) (vec 1 (.slice (some ⟨vb,vo,none⟩) wl.length vc) (wl.map (·.1)))
 refine tr_pure (fun h st=>code_at hcode' hcl h st) ?_
 rintro ⟨cb,co,hca⟩
 refine tr_pure (p:=∀ y,cl.code[t.pc]?=some y→∃ kb ko,(cw.k t.call).1=some ⟨kb,ko,none⟩) (fun h st y hy=>(rd_instr hcode' hcl hy).1 h st) ?_
 intro hk
 have hcvs:cw.v cs.length=.slice (some ⟨cb,co,none⟩) cs.length cw.c:=by unfold CW.v;rw [hca]
 have hn:=fun (mb:Nat) (c:HProp)=>next_tr (B:=B) (L:=c::arr tb 0 (thCells (cw.v cs.length) t av)::vec 1 (.slice (some ⟨ib,io,none⟩) l2.length ic) (l2.map num)::arr wb 0 [.slice (some ⟨vb,vo,none⟩) wl.length vc,lv]::vec 1 (.slice (some ⟨vb,vo,none⟩) wl.length vc) (wl.map (·.1))::R) (x:=x) (tb:=tb) (cb:=cb) (co:=co) (ncalls:=cs.length) (ccap:=cw.c) (call:=t.call) (pc:=t.pc) (code:=cl.code)
  (.there (Rd.row0 (by rw [hcvs];rfl))) (.there (Rd.row0 rfl)) (.there (Rd.row0 rfl)) hlt (.there (rd_code hcode' hcl hca).1) (fun y hy=>by
   obtain ⟨kb,ko,e⟩:=hk y hy
   exact ⟨kb,ko,e,fun i v hi=>.there ((rd_instr hcode' hcl hy).2 kb ko e i v hi)⟩)
 rw [← hnx] at hn
 rw [← hcv] at hn ⊢
 have hregs:∀ {d1 d2:HProp} {R:List HProp},∀ j,j<24→Rd (d1::d2::arr tb 0 (thCells cv t av)::R) tb (3+j) (num (t.r j)):=fun {d1 d2 R} j h=>rd_reg (.there (.there .here)) h
 refine tr_of_body Try.func61 rfl Try.ntmps61 (by simp) fun um Q _ hQ=>?_
 simp only [argE,Nat.zero_add,Nat.reduceAdd]
 repeat (first | (apply wo_mo;apply mo_alloc;exact trivial) | refine we_seq ?_ | (refine wR ?_;try simp only [oS]))
 rintro v' L' ⟨mb,rfl,rfl⟩
 repeat (first | refine we_seq ?_ | (refine wR ?_;try simp only [oS]) | refine wo_nil ?_ | refine wM ?_)
 refine wo_call (.cons rfl .nil) trivial (hn mb _) ?_
 rintro v' L' x' ⟨rfl,rfl,rfl⟩
 repeat (first | (apply wo_mo;apply mo_alloc;exact trivial))
 rintro v' L' ⟨xb,rfl,rfl⟩
 repeat (first | (apply wo_pm;apply mo_storeA (c:=0) (k:=0) (a:=0) (vs:=inC { op:=0 }) (v:=.agg (inC y).toArray);exact rfl;exact rfl;exact rfl;(intro w hw;simp [Value.cells,inC] at hw;rcases hw with rfl | rfl | rfl | rfl | rfl | rfl | rfl <;> rfl);exact rfl;exact Nat.le_refl 7;exact .here;exact trivial) | refine we_seq ?_ | (refine wR ?_;try simp only [oS]) | refine wo_nil ?_ | refine wM ?_ | refine wA ?_ | refine wN ?_ | refine wD ?_)
 obtain ⟨R2,hR2⟩:∃ R2,R2=arr wb 0 [.slice (some ⟨vb,vo,none⟩) wl.length vc,lv]::vec 1 (.slice (some ⟨vb,vo,none⟩) wl.length vc) (wl.map (·.1))::R:=⟨_,rfl⟩
 refine we_ent (arr xb 0 (inC y)::arr mb 0 [.int .u8 0,.int .i64 0]::arr tb 0 (thCells cv t av)::vec 1 (.slice (some ⟨ib,io,none⟩) l2.length ic) (l2.map num)::R2) (ent_eq (by rw [hR2];rfl)) ?_
 have hreg:=@hregs (arr xb 0 (inC y)) (arr mb 0 [.int .u8 0,.int .i64 0]) (vec 1 (.slice (some ⟨ib,io,none⟩) l2.length ic) (l2.map num)::R2)
 have hadd:IntKind.u64.wrap ((t.r y.b:Int)+(y.n:Int))=(p:Int):=by rw [← hplace];exact u64_add
 have hpw:IntKind.i64.wrap (p:Int)=(p:Int):=wrap_i64 (by omega) (by omega)
 have hwrd:Rd (arr xb 0 (inC y)::arr mb 0 [.int .u8 0,.int .i64 0]::arr tb 0 (thCells cv t av)::vec 1 (.slice (some ⟨ib,io,none⟩) l2.length ic) (l2.map num)::R2) wb 0 (.slice (some ⟨vb,vo,none⟩) wl.length vc):=by rw [hR2];exact .there (.there (.there (.there (.row0 rfl))))
 have hiv:Rd (arr xb 0 (inC y)::arr mb 0 [.int .u8 0,.int .i64 0]::arr tb 0 (thCells cv t av)::vec 1 (.slice (some ⟨ib,io,none⟩) l2.length ic) (l2.map num)::R2) vb (vo+y.on) (.slice (some ⟨ib,io,none⟩) l2.length ic):=by
  rw [hR2];exact rd_vec (.there (.there (.there (.there (.there .here))))) (by rw [List.getElem?_map,hwl];rfl)
 refine we_draw (List.range' 0 11) (by kernel_rfl) ?_
 repeat (first | (apply ap_pure;exact rfl;exact rfl;exact trivial;intro L;apply mo_indexArr1;exact rfl;exact rfl;omega) | (apply ap_read;exact rfl;exact rfl;exact trivial;apply mo_load;exact rfl;exact hreg _ hb) | (apply ap_pure;exact rfl;exact rfl;exact trivial;intro L;apply mo_bin;exact rfl;exact rfl;apply bin_add;exact hadd) | (apply ap_pure;exact rfl;exact rfl;exact trivial;intro L;apply mo_conv;exact rfl;exact hpw) | refine aM ?_ | refine aA ?_ | refine aN ?_ | refine aD ?_ | refine aL ?_ | refine ap_end ?_)
 repeat (first | refine we_seq ?_)
 refine we_draw (List.range' 0 11) (by kernel_rfl) ?_
 repeat (first | (apply ap_read;exact rfl;exact rfl;exact trivial;apply mo_load;exact rfl;exact hwrd) | (apply ap_pure;exact rfl;exact rfl;exact trivial;intro L;apply mo_index1;exact rfl;exact rfl;omega) | (apply ap_read;exact rfl;exact rfl;exact trivial;apply mo_load;exact rfl;exact hiv) | refine aM ?_ | refine aA ?_ | refine aN ?_ | refine aD ?_ | refine aL ?_ | refine ap_end ?_)
 repeat (first | refine we_seq ?_ | (refine wR ?_;try simp only [oS]) | refine wo_nil ?_ | refine wD ?_ | refine wL ?_)
 refine we_join (opMid tb xb mb (.pointer (some ⟨wb,0,none⟩)) cv av (.slice (some ⟨ib,io,none⟩) l2.length ic) y t l2 p R2 x') ?_ ?_
 ·obtain ⟨v,hv⟩:∃ v,l2[p]?=some v:=⟨l2[p],by simp [hpl]⟩
  have hvd:l2.getD p 0=v:=by rw [List.getD_eq_getElem?_getD,hv];rfl
  have hvlt:=hlv v (List.mem_of_getElem? hv)
  have hpn:p<(l2.map num).length:=by simpa using hpl
  have hword:Rd (arr xb 0 (inC y)::arr mb 0 [.int .u8 0,.int .i64 0]::arr tb 0 (thCells cv t av)::vec 1 (.slice (some ⟨ib,io,none⟩) l2.length ic) (l2.map num)::R2) ib (io+p) (num v):=rd_vec (.there (.there (.there .here))) (by rw [List.getElem?_map,hv];rfl)
  have va:=hr y.a
  have vc:=hr y.c
  have hops:y.op=1∨y.op=2∨y.op=3∨y.op=4∨y.op=5:=by omega
  rcases hops with h | h | h | h | h
  ·have h':(y.op:Int)=1:=by omega
   have hop:Mach.op1 y l2 p t.r=(l2,upd t.r y.a v):=by rw [op1_1 h,hvd]
   repeat (first | refine weqlT ?_ | refine we_seq ?_ | (refine wR ?_;try simp only [oS]) | refine wo_nil ?_ | refine wA ?_ | refine wT ?_ | refine we_block ?_)
   refine we_draw (List.range' 0 9) (by kernel_rfl) ?_
   repeat (first | (apply ap_pure;exact rfl;exact rfl;exact trivial;intro L;apply mo_indexArr1;exact rfl;exact rfl;omega) | (apply ap_read;exact rfl;exact rfl;exact trivial;apply mo_load;exact rfl;exact hword) | refine aM ?_ | refine aN ?_ | refine aD ?_ | refine aL ?_)
   refine ap_loud rfl rfl rfl rfl rfl trivial (mo_store rfl rfl rfl (Wt.row0 (k:=3+y.a) (vs:=thCells cv t av) (.there (.there .here)) (by rw [thCells_len];omega))) ?_
   rintro v' L' ⟨rfl,rfl⟩
   refine ap_end ?_
   skip
   refine at_mid (I:=opMid tb xb mb (.pointer (some ⟨wb,0,none⟩)) cv av (.slice (some ⟨ib,io,none⟩) l2.length ic) y t l2 p R2 x') () trivial ⟨rfl,rfl,rfl,rfl,rfl,trivial⟩ (ent_eq ?_) rfl
   simp only [opMid,hop]
   rw [thCells_set ha]
  ·have h':(y.op:Int)=2:=by omega
   have hop:Mach.op1 y l2 p t.r=(l2.set p (t.r y.a),t.r):=op1_2 h
   repeat (first | refine weqlT ?_ | refine weqlF ?_ | refine we_seq ?_ | (refine wR ?_;try simp only [oS]) | refine wo_nil ?_ | refine wA ?_ | refine wT ?_ | refine wF ?_ | refine we_block ?_)
   refine we_draw (List.range' 0 9) (by kernel_rfl) ?_
   repeat (first | (apply ap_pure;exact rfl;exact rfl;exact trivial;intro L;apply mo_indexArr1;exact rfl;exact rfl;omega) | (apply ap_read;exact rfl;exact rfl;exact trivial;apply mo_load;exact rfl;exact hreg _ ha) | refine aM ?_ | refine aN ?_ | refine aD ?_ | refine aL ?_)
   refine ap_loud rfl rfl rfl rfl rfl trivial (mo_store rfl rfl rfl (wt_vec (i:=p) (.there (.there (.there .here))) hpn)) ?_
   rintro v' L' ⟨rfl,rfl⟩
   refine ap_end ?_
   skip
   refine at_mid (I:=opMid tb xb mb (.pointer (some ⟨wb,0,none⟩)) cv av (.slice (some ⟨ib,io,none⟩) l2.length ic) y t l2 p R2 x') () trivial ⟨rfl,rfl,rfl,rfl,rfl,trivial⟩ ?_ rfl
   simp only [opMid,hop]
   rw [← map_num_set]
   exact .take (.there .here) (.take (.there .here) (.take (.there .here) .refl))
  ·have h':(y.op:Int)=3:=by omega
   have hop:Mach.op1 y l2 p t.r=(l2.set p ((v+t.r y.c)%18446744073709551616),upd t.r y.a ((v+t.r y.c)%18446744073709551616)):=by rw [op1_3 h,hvd]
   obtain ⟨q,hq⟩:∃ q,(v+t.r y.c)%18446744073709551616=q:=⟨_,rfl⟩
   have hadd2:IntKind.u64.wrap ((v:Int)+(t.r y.c:Int))=(q:Int):=by rw [← hq];exact u64_add
   rw [hq] at hop
   repeat (first | refine weqlT ?_ | refine weqlF ?_ | refine we_seq ?_ | (refine wR ?_;try simp only [oS]) | refine wo_nil ?_ | refine wA ?_ | refine wT ?_ | refine wF ?_ | refine we_block ?_)
   refine we_draw (List.range' 0 13) (by kernel_rfl) ?_
   repeat (first | (apply ap_pure;exact rfl;exact rfl;exact trivial;intro L;apply mo_indexArr1;exact rfl;exact rfl;omega) | (apply ap_read;exact rfl;exact rfl;exact trivial;apply mo_load;exact rfl;exact hreg _ hc) | (apply ap_read;exact rfl;exact rfl;exact trivial;apply mo_load;exact rfl;exact hword) | (apply ap_pure;exact rfl;exact rfl;exact trivial;intro L;apply mo_bin;exact rfl;exact rfl;apply bin_add;exact hadd2) | refine aM ?_ | refine aN ?_ | refine aD ?_ | refine aL ?_)
   refine ap_loud rfl rfl rfl rfl rfl trivial (mo_store rfl rfl rfl (wt_vec (i:=p) (.there (.there (.there .here))) hpn)) ?_
   rintro v' L' ⟨rfl,rfl⟩
   refine ap_end ?_
   have hword2:Rd (vec 1 (.slice (some ⟨ib,io,none⟩) l2.length ic) ((l2.map num).set p (num q))::arr xb 0 (inC y)::arr mb 0 [.int .u8 0,.int .i64 0]::arr tb 0 (thCells cv t av)::R2) ib (io+p) (num q):=rd_vec (i:=p) .here (by rw [List.getElem?_set_self hpn])
   have hreg2:∀ j,j<24→Rd (vec 1 (.slice (some ⟨ib,io,none⟩) l2.length ic) ((l2.map num).set p (num q))::arr xb 0 (inC y)::arr mb 0 [.int .u8 0,.int .i64 0]::arr tb 0 (thCells cv t av)::R2) tb (3+j) (num (t.r j)):=fun j hj=>.there (hregs j hj)
   clear hword hreg
   have hword:=hword2
   have hreg:=hreg2
   skip
   refine we_draw (List.range' 0 9) (by kernel_rfl) ?_
   repeat (first | (apply ap_pure;exact rfl;exact rfl;exact trivial;intro L;apply mo_indexArr1;exact rfl;exact rfl;omega) | (apply ap_read;exact rfl;exact rfl;exact trivial;apply mo_load;exact rfl;exact hword) | refine aM ?_ | refine aN ?_ | refine aD ?_ | refine aL ?_)
   refine ap_loud rfl rfl rfl rfl rfl trivial (mo_store rfl rfl rfl (Wt.row0 (k:=3+y.a) (vs:=thCells cv t av) (.there (.there (.there .here))) (by rw [thCells_len];omega))) ?_
   rintro v' L' ⟨rfl,rfl⟩
   refine ap_end ?_
   skip
   refine at_mid (I:=opMid tb xb mb (.pointer (some ⟨wb,0,none⟩)) cv av (.slice (some ⟨ib,io,none⟩) l2.length ic) y t l2 p R2 x') () trivial ⟨rfl,rfl,rfl,rfl,rfl,trivial⟩ ?_ rfl
   simp only [opMid,hop]
   rw [← map_num_set,thCells_set ha]
   exact .take (.there .here) (.take (.there .here) (.take (.there .here) .refl))
  ·have h':(y.op:Int)=4:=by omega
   have hop:Mach.op1 y l2 p t.r=(l2.set p (t.r y.c),upd t.r y.a v):=by rw [op1_4 h,hvd]
   repeat (first | (apply wo_po;apply mo_load;exact rfl;exact hword;exact trivial) | refine weqlT ?_ | refine weqlF ?_ | refine we_seq ?_ | (refine wR ?_;try simp only [oS]) | refine wo_nil ?_ | refine wM ?_ | refine wA ?_ | refine wN ?_ | refine wT ?_ | refine wF ?_ | refine we_block ?_)
   refine we_draw (List.range' 0 9) (by kernel_rfl) ?_
   repeat (first | (apply ap_pure;exact rfl;exact rfl;exact trivial;intro L;apply mo_indexArr1;exact rfl;exact rfl;omega) | (apply ap_read;exact rfl;exact rfl;exact trivial;apply mo_load;exact rfl;exact hreg _ hc) | refine aM ?_ | refine aN ?_ | refine aD ?_ | refine aL ?_)
   refine ap_loud rfl rfl rfl rfl rfl trivial (mo_store rfl rfl rfl (wt_vec (i:=p) (.there (.there (.there .here))) hpn)) ?_
   rintro v' L' ⟨rfl,rfl⟩
   refine ap_end ?_
   have hreg2:∀ j,j<24→Rd (vec 1 (.slice (some ⟨ib,io,none⟩) l2.length ic) ((l2.map num).set p (num (t.r y.c)))::arr xb 0 (inC y)::arr mb 0 [.int .u8 0,.int .i64 0]::arr tb 0 (thCells cv t av)::R2) tb (3+j) (num (t.r j)):=fun j hj=>.there (hregs j hj)
   clear hword hreg
   have hreg:=hreg2
   skip
   refine we_draw (List.range' 0 7) (by kernel_rfl) ?_
   repeat (first | (apply ap_pure;exact rfl;exact rfl;exact trivial;intro L;apply mo_indexArr1;exact rfl;exact rfl;omega) | refine aM ?_ | refine aN ?_ | refine aD ?_ | refine aL ?_)
   refine ap_loud rfl rfl rfl rfl rfl trivial (mo_store rfl rfl rfl (Wt.row0 (k:=3+y.a) (vs:=thCells cv t av) (.there (.there (.there .here))) (by rw [thCells_len];omega))) ?_
   rintro v' L' ⟨rfl,rfl⟩
   refine ap_end ?_
   skip
   refine at_mid (I:=opMid tb xb mb (.pointer (some ⟨wb,0,none⟩)) cv av (.slice (some ⟨ib,io,none⟩) l2.length ic) y t l2 p R2 x') () trivial ⟨rfl,rfl,rfl,rfl,rfl,trivial⟩ ?_ rfl
   simp only [opMid,hop]
   rw [← map_num_set,thCells_set ha]
   exact .take (.there .here) (.take (.there .here) (.take (.there .here) .refl))
  ·have h':(y.op:Int)=5:=by omega
   have hop:=op1_5 (y:=y) (l:=l2) (p:=p) (r:=t.r) h
   rw [hvd] at hop
   by_cases hcas:v=t.r y.c
   ·have hcas':(v:Int)=(t.r y.c:Int):=by omega
    rw [if_pos hcas] at hop
    repeat (first | refine weqlT ?_ | refine weqlF ?_ | refine we_seq ?_ | (refine wR ?_;try simp only [oS]) | refine wo_nil ?_ | refine wA ?_ | refine wT ?_ | refine wF ?_ | refine we_block ?_)
    refine we_draw (List.range' 0 10) (by kernel_rfl) ?_
    repeat (first | (apply ap_pure;exact rfl;exact rfl;exact trivial;intro L;apply mo_indexArr1;exact rfl;exact rfl;omega) | (apply ap_read;exact rfl;exact rfl;exact trivial;apply mo_load;exact rfl;exact hreg _ hc) | (apply ap_read;exact rfl;exact rfl;exact trivial;apply mo_load;exact rfl;exact hword) | (apply ap_pure;exact rfl;exact rfl;exact trivial;intro L;apply mo_bin;exact rfl;exact rfl;apply bin_eqlT;exact hcas') | refine aM ?_ | refine aN ?_ | refine aD ?_ | refine aL ?_ | refine ap_end ?_)
    repeat (first | refine we_seq ?_ | (refine wR ?_;try simp only [oS]) | refine wo_nil ?_ | refine wA ?_ | refine wT ?_)
    refine we_draw (List.range' 0 9) (by kernel_rfl) ?_
    repeat (first | (apply ap_pure;exact rfl;exact rfl;exact trivial;intro L;apply mo_indexArr1;exact rfl;exact rfl;omega) | (apply ap_read;exact rfl;exact rfl;exact trivial;apply mo_load;exact rfl;exact hreg _ hd) | refine aM ?_ | refine aN ?_ | refine aD ?_ | refine aL ?_)
    refine ap_loud rfl rfl rfl rfl rfl trivial (mo_store rfl rfl rfl (wt_vec (i:=p) (.there (.there (.there .here))) hpn)) ?_
    rintro v' L' ⟨rfl,rfl⟩
    refine ap_end ?_
    have hreg2:∀ j,j<24→Rd (vec 1 (.slice (some ⟨ib,io,none⟩) l2.length ic) ((l2.map num).set p (num (t.r y.d)))::arr xb 0 (inC y)::arr mb 0 [.int .u8 0,.int .i64 0]::arr tb 0 (thCells cv t av)::R2) tb (3+j) (num (t.r j)):=fun j hj=>.there (hregs j hj)
    clear hword hreg
    have hreg:=hreg2
    skip
    refine we_draw (List.range' 0 7) (by kernel_rfl) ?_
    repeat (first | (apply ap_pure;exact rfl;exact rfl;exact trivial;intro L;apply mo_indexArr1;exact rfl;exact rfl;omega) | refine aM ?_ | refine aN ?_ | refine aD ?_ | refine aL ?_)
    refine ap_loud rfl rfl rfl rfl rfl trivial (mo_store rfl rfl rfl (Wt.row0 (k:=3+y.a) (vs:=thCells cv t av) (.there (.there (.there .here))) (by rw [thCells_len];omega))) ?_
    rintro v' L' ⟨rfl,rfl⟩
    refine ap_end ?_
    skip
    refine at_mid (I:=opMid tb xb mb (.pointer (some ⟨wb,0,none⟩)) cv av (.slice (some ⟨ib,io,none⟩) l2.length ic) y t l2 p R2 x') () trivial ⟨rfl,rfl,rfl,rfl,rfl,trivial⟩ ?_ rfl
    simp only [opMid,hop]
    rw [← map_num_set,show Value.int .u64 1=num 1 from rfl,thCells_set ha]
    exact .take (.there .here) (.take (.there .here) (.take (.there .here) .refl))
   ·have hcas':¬ (v:Int)=(t.r y.c:Int):=by omega
    rw [if_neg hcas] at hop
    repeat (first | refine weqlT ?_ | refine weqlF ?_ | refine we_seq ?_ | (refine wR ?_;try simp only [oS]) | refine wo_nil ?_ | refine wA ?_ | refine wT ?_ | refine wF ?_ | refine we_block ?_)
    refine we_draw (List.range' 0 10) (by kernel_rfl) ?_
    repeat (first | (apply ap_pure;exact rfl;exact rfl;exact trivial;intro L;apply mo_indexArr1;exact rfl;exact rfl;omega) | (apply ap_read;exact rfl;exact rfl;exact trivial;apply mo_load;exact rfl;exact hreg _ hc) | (apply ap_read;exact rfl;exact rfl;exact trivial;apply mo_load;exact rfl;exact hword) | (apply ap_pure;exact rfl;exact rfl;exact trivial;intro L;apply mo_bin;exact rfl;exact rfl;apply bin_eqlF;exact hcas') | refine aM ?_ | refine aN ?_ | refine aD ?_ | refine aL ?_ | refine ap_end ?_)
    repeat (first | refine wF ?_ | refine we_skip ?_)
    refine we_draw (List.range' 0 7) (by kernel_rfl) ?_
    repeat (first | (apply ap_pure;exact rfl;exact rfl;exact trivial;intro L;apply mo_indexArr1;exact rfl;exact rfl;omega) | refine aM ?_ | refine aN ?_ | refine aD ?_ | refine aL ?_)
    refine ap_loud rfl rfl rfl rfl rfl trivial (mo_store rfl rfl rfl (Wt.row0 (k:=3+y.a) (vs:=thCells cv t av) (.there (.there .here)) (by rw [thCells_len];omega))) ?_
    rintro v' L' ⟨rfl,rfl⟩
    refine ap_end ?_
    skip
    refine at_mid (I:=opMid tb xb mb (.pointer (some ⟨wb,0,none⟩)) cv av (.slice (some ⟨ib,io,none⟩) l2.length ic) y t l2 p R2 x') () trivial ⟨rfl,rfl,rfl,rfl,rfl,trivial⟩ (ent_eq ?_) rfl
    simp only [opMid,hop]
    rw [show Value.int .u64 0=num 0 from rfl,thCells_set ha]
 rintro ⟨⟩ _
 dsimp only [opMid]
 cases hon1:Mach.onF f { t with pc:=t.pc+1,r:=(Mach.op1 y l2 p t.r).2 } with
 | none=>rw [hon1] at ho;cases ho
 | some t1 =>
 rw [hon1] at ho
 simp only [Option.map_some,Option.some.injEq,Prod.mk.injEq] at ho
 obtain ⟨rfl,rfl⟩:=ho
 have g1:Good cs { t with pc:=t.pc+1,r:=(Mach.op1 y l2 p t.r).2 } f:=⟨g.calls,g.ok,g.len,hpc,g.call,g.ans1,g.ans2,fun z hz=>by have:=g.room z hz;omega⟩
 have hr1:=(op1_lt (y:=y) (p:=p) hlv hr).2
 have hwok1:({ w with words:=w.words.set y.on (Mach.op1 y l2 p t.r).1 }:Mach.Wd).ok:=by rw [hl];exact wd_op hwok hr
 have hpcw:IntKind.i64.wrap ((t.pc:Int)+1)=((t.pc+1:Nat):Int):=wrap_i64 (by omega) (by omega)
 repeat (first | refine wS ?_ | (apply wo_po;apply mo_bin;exact rfl;exact rfl;apply bin_add;exact hpcw;exact trivial) | refine we_seq ?_ | (refine wR ?_;try simp only [oS]) | refine wo_nil ?_ | refine wM ?_ | refine wN ?_ | refine wD ?_ | refine wL ?_)
 refine wo_star (thC tb cv { t with pc:=t.pc+1,r:=(Mach.op1 y l2 p t.r).2 }::wdC wb { w with words:=w.words.set y.on (Mach.op1 y l2 p t.r).1 }::arr xb 0 (inC y)::arr mb 0 [.int .u8 0,.int .i64 0]::G) (fun h st=>?_) ?_
 ·refine op_back (t:={ t with pc:=t.pc+1,r:=(Mach.op1 y l2 p t.r).2 }) (av:=av) (wv:=.slice (some ⟨vb,vo,none⟩) wl.length vc) (lv:=lv) e1 hr1 e2 hwl hwok1 ?_
  rw [hR2,hR] at st
  have st':Star (arr xb 0 (inC y)::arr mb 0 [.int .u8 0,.int .i64 0]::arr tb 0 (thCells cv { t with pc:=t.pc+1,r:=(Mach.op1 y l2 p t.r).2 } av)::vec 1 (.slice (some ⟨ib,io,none⟩) l2.length ic) ((Mach.op1 y l2 p t.r).1.map num)::arr wb 0 [.slice (some ⟨vb,vo,none⟩) wl.length vc,lv]::vec 1 (.slice (some ⟨vb,vo,none⟩) wl.length vc) (wl.map (·.1))::all ((wl.map rowT).eraseIdx y.on)::lstC lv w.nl::vec 2 av (al.map ansV).flatten::all (al.map ansT)::G) h:=st
  refine Ent.star ?_ st'
  exact .take (.there (.there .here)) (.take (.there (.there .here)) (.take (.there (.there .here)) (.take (.there (.there .here)) (.take (.there (.there .here)) (.take (.there (.there .here)) (.take (.there (.there .here)) (.take (.there (.there .here)) .refl)))))))
 subst hcv
 refine wo_call (.cons rfl (.cons rfl .nil)) trivial (on_tr hon1 g1 (by omega) .here (.there (.there (.there hcode)))) ?_
 rintro v' L' x'' ⟨rfl,rfl,rfl⟩
 repeat (first | refine we_seq ?_ | (refine wR ?_;try simp only [oS]) | refine wo_nil ?_ | refine wD ?_ | refine wL ?_)
 refine wo_call (.cons rfl .nil) trivial (kind_tr h15) ?_
 rintro v' L' x3 ⟨rfl,rfl,rfl⟩
 repeat (first | (apply wo_po;apply mo_build (pv:=[(0,_),(1,_)]);exact rfl;exact .cons rfl (.cons rfl .nil);exact rfl;exact trivial) | refine wM ?_)
 refine wo_pm (mo_storeA (c:=0) (k:=0) (a:=0) (vs:=[.int .u8 0,.int .i64 0]) rfl rfl rfl (by intro w hw;simp [Value.cells] at hw;rcases hw with rfl | rfl <;> rfl) rfl (Nat.le_refl 2) (.there (.there (.there .here)))) trivial ?_
 repeat (first | refine wo_nil ?_ | refine we_ret ?_)
 refine at_leaveM (rs:=[.cell 4 110]) Try.func61 Try.results61 hQ (.inl rfl) (.cons (.cell (vs:=[.int .u8 (y.op:Nat),.int .i64 (p:Nat)]) rfl rfl (Rds.all (.there (.there (.there .here))))) .nil) ?_
 refine ⟨?_,rfl,fun h st=>?_⟩
 ·show Value.agg #[.int .u8 (y.op:Nat),.int .i64 (p:Nat)]=_
  rw [hy,hp];rfl
 ·refine Ent.star ?_ st
  exact .take .here (.take .here (.drop (.drop .refl)))
end
section
variable {B:Hand} [Lets B] {L F G:List HProp} {x:B.X}
theorem set_same {α:Type} {l:List α} {i:Nat} {a:α} (h:l[i]?=some a):l.set i a=l:=by
 apply List.ext_getElem?
 intro j
 rw [List.getElem?_set]
 by_cases e:i=j
 ·subst e;rw [if_pos rfl,if_pos (List.getElem?_eq_some_iff.1 h).1,h]
 ·rw [if_neg e]
theorem one_num {l:List Nat}:∀ w∈l.map num,one w=true:=by
 intro w hw
 obtain ⟨v,_,rfl⟩:=List.mem_map.1 hw
 rfl
theorem copy_words_tr {a:Option Addr} {n c:Nat} {l:List Nat} (hn:n=l.length) (hl:l.length<1000000) (hr:(a=none∧n=0)∨∃ b o,a=some ⟨b,o,none⟩∧∀ i v,l[i]?=some v→Rd L b (o+i) (num v)) :
  Tr Try.prog B 89 [.slice a n c] L x fun v L' x'=>L'=vec 1 v (l.map num)::L∧x'=x:=by
 subst hn
 refine tr_star (vec 1 (.slice none 0 0) []::L) (fun h st=>vec_nil st) ?_
 have hr':(a=none∧l.length=0)∨∃ b o,a=some ⟨b,o,none⟩∧Rds (vec 1 (.slice none 0 0) []::L) b o (l.map num):=by
  rcases hr with h | ⟨b,o,h1,h2⟩
  ·exact .inl h
  ·refine .inr ⟨b,o,h1,fun i v hi=>.there ?_⟩
   rw [List.getElem?_map] at hi
   cases h:l[i]? with
   | none=>rw [h] at hi;cases hi
   | some u=>rw [h] at hi;cases hi;exact h2 i u h
 refine tr_of_body Try.func89 rfl Try.ntmps89 (by simp) fun um Q _ hQ=>?_
 simp only [argE,Nat.zero_add,Nat.reduceAdd]
 repeat (first | (apply wo_mo;apply mo_append (sz:=1) (new:=l.map num);exact rfl;exact rfl;exact rfl;exact rfl;exact .here;(simp);exact hr'.imp And.right id;exact one_num;(simp only [sliceLen];omega);exact trivial) | refine we_seq ?_ | (refine wR ?_;try simp only [oS]) | refine wo_nil ?_ | refine wM ?_ | refine wA ?_)
 rintro v' L' rfl
 repeat (first | refine wo_nil ?_ | refine wA ?_ | refine we_ret ?_)
 (first | refine or1 Try.func89 Try.results89 hQ rfl ?_ | refine on1 Try.func89 Try.results89 hQ rfl ?_)
 exact ⟨rfl,rfl⟩
def wvC (wv lv:Value) (w:Mach.Wd):HProp:=fun h=>∃ wl:List (Value × List Nat),wl.map (·.2)=w.words∧w.ok∧all (wdB wv lv wl w.nl) h
omit [Lets B] in
theorem wv_close {wv lv:Value} {w:Mach.Wd} {wl:List (Value × List Nat)} (h1:wl.map (·.2)=w.words) (h2:w.ok) {h:Hp} (s:Star (wdB wv lv wl w.nl++F) h):Star (wvC wv lv w::F) h :=
 star_map (star_shut s) (fun _ z=>⟨wl,h1,h2,z⟩) (fun _ z=>z)
omit [Lets B] in
theorem wv_shut {wv lv:Value} {w:Mach.Wd} {wl:List (Value × List Nat)} {lw:List Value} (h1:wl.map (·.2)=w.words) (h2:w.ok) (h3:lw.length=w.nl) {h:Hp} (s:Star (vec 1 lv lw::all (lw.map lstT)::vec 1 wv (wl.map (·.1))::all (wl.map rowT)::F) h):Star (wvC wv lv w::F) h:=by
 have s1:Star (lstC lv w.nl::vec 1 wv (wl.map (·.1))::all (wl.map rowT)::F) h:=star_map (star_shut (M:=[_,_]) s) (fun _ z=>⟨lw,h3,z⟩) (fun _ z=>z)
 exact wv_close h1 h2 (star_swap s1)
def copyInv1 (b1 b2 b3:Nat) (wv lv:Value) (wl:List (Value × List Nat)) (x:B.X) (F:List HProp):Inv (Nat × Value × List (Value × List Nat)) B.X where
 e:=fun i=>[(1,.pointer (some ⟨b1,0,none⟩)),(2,.pointer (some ⟨b2,0,none⟩)),(3,.pointer (some ⟨b3,0,none⟩)),(4,.int .i64 (i.1:Nat))]
 L:=fun i=>arr b3 0 [i.2.1,.slice none 0 0]::vec 1 i.2.1 (i.2.2.map (·.1))::all (i.2.2.map rowT)::arr b1 0 [wv,lv]::arr b2 0 [.slice none 0 0,.slice none 0 0]::vec 1 wv (wl.map (·.1))::all (wl.map rowT)::F
 x:=fun _=>x
 ok:=fun i=>i.1≤wl.length∧i.2.2.map (·.2)=(wl.map (·.2)).take i.1
def copyInv2 (b1 b2 b3:Nat) (wv lv ov:Value) (lw:List Value) (x:B.X) (F:List HProp):Inv (Nat × Value × List Value) B.X where
 e:=fun i=>[(1,.pointer (some ⟨b1,0,none⟩)),(2,.pointer (some ⟨b2,0,none⟩)),(3,.pointer (some ⟨b3,0,none⟩)),(5,.int .i64 (i.1:Nat))]
 L:=fun i=>arr b3 0 [ov,i.2.1]::vec 1 i.2.1 i.2.2::all (i.2.2.map lstT)::arr b1 0 [wv,lv]::arr b2 0 [.slice none 0 0,.slice none 0 0]::vec 1 lv lw::all (lw.map lstT)::F
 x:=fun _=>x
 ok:=fun i=>i.1≤lw.length∧i.2.2.length=i.1
set_option maxHeartbeats 4000000 in
theorem copy_tr {wv lv:Value} {w:Mach.Wd} (hh:Has L (wvC wv lv w) F) :
  Tr Try.prog B 59 [.agg #[wv,lv]] L x fun v L' x'=>∃ wv' lv',v=.agg #[wv',lv']∧L'=wvC wv' lv' w::wvC wv lv w::F∧x'=x:=by
 refine tr_ex hh fun (wl:List (Value × List Nat))=>tr_and .here fun e1=>tr_and .here fun hok=>tr_star (vec 1 wv (wl.map fun (z:Value × List Nat)=>z.1)::lstC lv w.nl::all (wl.map rowT)::F) (fun h st=>star_open st) ?_
 refine tr_ex (c:=fun lw h=>lw.length=w.nl∧all [vec 1 lv lw,all (lw.map lstT)] h) (.there .here) fun lw=>tr_and .here fun hlw=>tr_star (vec 1 lv lw::all (lw.map lstT)::vec 1 wv (wl.map fun (z:Value × List Nat)=>z.1)::all (wl.map rowT)::F) (fun h st=>star_open st) ?_
 refine Tr.post (R:=fun v L' x'=>∃ wv' lv',v=.agg #[wv',lv']∧x'=x∧∀ h,Star L' h→Star (wvC wv' lv' w::wvC wv lv w::F) h) ?_ (by rintro v L' x' ⟨wv',lv',rfl,rfl,hs⟩;exact ⟨_,⟨wv',lv',rfl,rfl,rfl⟩,hs⟩)
 refine tr_star (vec 1 wv (wl.map (·.1))::all (wl.map rowT)::vec 1 lv lw::all (lw.map lstT)::F) (fun h st=>?_) ?_
 ·refine Ent.star ?_ st
  exact .take (.there (.there .here)) (.take (.there (.there .here)) (.take .here (.take .here .refl)))
 have hwn:wl.length<1000000:=by have:=hok.n;rw [← e1,List.length_map] at this;exact this
 have hln:lw.length<1000000:=by have:=hok.nl;omega
 refine tr_pure (of_has .here (vec_shape (by omega))) ?_
 rintro ⟨va,vn,vc,rfl,hvn,_,hva,hva2⟩
 have hvnn:vn=wl.length:=by simpa using hvn.symm
 subst hvnn
 refine tr_pure (of_has (.there (.there .here)) (vec_shape (by omega))) ?_
 rintro ⟨la,ln,lc,rfl,hlln,_,hla,hla2⟩
 have hlnn:ln=lw.length:=by simpa using hlln.symm
 subst hlnn
 refine tr_of_body Try.func59 rfl Try.ntmps59 (by simp) fun um Q _ hQ=>?_
 simp only [argE,Nat.zero_add,Nat.reduceAdd]
 repeat (first | (apply wo_mo;apply mo_box;exact rfl;exact trivial) | refine we_seq ?_ | (refine wR ?_;try simp only [oS]))
 rintro v' L' ⟨b1,rfl,rfl⟩
 repeat (first | (apply wo_mo;apply mo_alloc;exact trivial))
 rintro v' L' ⟨b2,rfl,rfl⟩
 repeat (first | (apply wo_mo;apply mo_alloc;exact trivial) | refine we_seq ?_ | (refine wR ?_;try simp only [oS]) | refine wo_nil ?_)
 rintro v' L' ⟨b3,rfl,rfl⟩
 repeat (first | refine we_seq ?_ | (refine wR ?_;try simp only [oS]) | refine wo_nil ?_ | refine wA ?_)
 refine we_block ?_
 refine we_star ((copyInv1 b1 b2 b3 (.slice va wl.length vc) (.slice la lw.length lc) wl x (vec 1 (.slice la lw.length lc) lw::all (lw.map lstT)::F)).L (0,.slice none 0 0,[])) (fun h st=>?_) ?_
 ·have st2:Star (arr b3 0 [.slice none 0 0,.slice none 0 0]::arr b1 0 [.slice va wl.length vc,.slice la lw.length lc]::arr b2 0 [.slice none 0 0,.slice none 0 0]::vec 1 (.slice va wl.length vc) (wl.map (·.1))::all (wl.map rowT)::vec 1 (.slice la lw.length lc) lw::all (lw.map lstT)::F) h:=by
   refine Ent.star ?_ st
   exact .take .here (.take (.there .here) (.take .here .refl))
  exact star_map st2 (fun _ z=>z) (fun _ z=>vec_nil (star_shut (M:=[]) z))
 refine we_loopN (copyInv1 b1 b2 b3 (.slice va wl.length vc) (.slice la lw.length lc) wl x (vec 1 (.slice la lw.length lc) lw::all (lw.map lstT)::F)) (fun i=>wl.length-i.1) (0,.slice none 0 0,[]) ⟨by simp,by simp⟩ ⟨rfl,rfl,rfl,rfl,trivial⟩ .refl rfl ?_
 rintro ⟨i,ov,nw⟩ ⟨hi,hnw⟩
 dsimp only [copyInv1] at hi hnw ⊢
 by_cases hc:i<wl.length
 ·obtain ⟨⟨iv,l⟩,hwl⟩:∃ z,wl[i]?=some z:=⟨wl[i],by simp [hc]⟩
  have hlm:l∈w.words:=by rw [← e1];exact List.mem_map.2 ⟨_,List.mem_of_getElem? hwl,rfl⟩
  have hll:=hok.len _ hlm
  refine we_pure (of_has (.there .here) (vec_shape (by omega))) ?_
  rintro ⟨oa,on,oc,rfl,hon,_,_,_⟩
  have honn:on=nw.length:=by simpa using hon.symm
  subst honn
  have hnwl:nw.length=i:=by have:=congrArg List.length hnw;simpa [Nat.min_eq_left hi] using this
  obtain ⟨⟨vb,vo,sp⟩,rfl⟩:∃ z,va=some z:=by
   cases va with
   | none=>have:wl.length=0:=hva rfl;omega
   | some z=>exact ⟨z,rfl⟩
  cases hva2 _ rfl
  obtain ⟨R,hR⟩:∃ R,R=all (nw.map rowT)::all ((wl.map rowT).eraseIdx i)::vec 1 (.slice la lw.length lc) lw::all (lw.map lstT)::F:=⟨_,rfl⟩
  refine we_star (arr b3 0 [.slice oa nw.length oc,.slice none 0 0]::vec 1 (.slice oa nw.length oc) (nw.map (·.1))::arr b1 0 [.slice (some ⟨vb,vo,none⟩) wl.length vc,.slice la lw.length lc]::arr b2 0 [.slice none 0 0,.slice none 0 0]::vec 1 (.slice (some ⟨vb,vo,none⟩) wl.length vc) (wl.map (·.1))::rowT (iv,l)::R) (fun h st=>?_) ?_
  ·rw [hR]
   have s1:Star (all (wl.map rowT)::arr b3 0 [.slice oa nw.length oc,.slice none 0 0]::vec 1 (.slice oa nw.length oc) (nw.map (·.1))::arr b1 0 [.slice (some ⟨vb,vo,none⟩) wl.length vc,.slice la lw.length lc]::arr b2 0 [.slice none 0 0,.slice none 0 0]::vec 1 (.slice (some ⟨vb,vo,none⟩) wl.length vc) (wl.map (·.1))::all (nw.map rowT)::vec 1 (.slice la lw.length lc) lw::all (lw.map lstT)::F) h:=by
    refine Ent.star ?_ st
    exact .take (.there (.there (.there (.there (.there (.there .here)))))) (.take .here (.take .here (.take (.there .here) (.take (.there .here) (.take (.there .here) (.take .here .refl))))))
   have s2:=star_pick (i:=i) (c:=rowT (iv,l)) (by rw [List.getElem?_map,hwl];rfl) s1
   refine Ent.star ?_ s2
   exact .take (.there (.there .here)) (.take (.there (.there .here)) (.take (.there (.there .here)) (.take (.there (.there .here)) (.take (.there (.there .here)) (.take .here (.take (.there .here) (.take .here .refl)))))))
  refine we_pure (of_has (.there (.there (.there (.there (.there .here))))) (vec_shape (by omega))) ?_
  rintro ⟨ia,inn,ic,hiv,hin,_,hia,hia2⟩
  dsimp only at hiv hin
  subst hiv
  have hinn:inn=l.length:=by simpa using hin.symm
  subst hinn
  repeat (first | refine wlssT ?_ | refine we_seq ?_ | (refine wR ?_;try simp only [oS]) | refine wo_nil ?_ | refine wM ?_ | refine wD ?_ | refine wL ?_ | refine wE ?_ | refine wT ?_ | refine we_skip ?_ | refine we_block ?_)
  have hiv:Rd (arr b3 0 [.slice oa nw.length oc,.slice none 0 0]::vec 1 (.slice oa nw.length oc) (nw.map (·.1))::arr b1 0 [.slice (some ⟨vb,vo,none⟩) wl.length vc,.slice la lw.length lc]::arr b2 0 [.slice none 0 0,.slice none 0 0]::vec 1 (.slice (some ⟨vb,vo,none⟩) wl.length vc) (wl.map (·.1))::rowT (.slice ia l.length ic,l)::R) vb (vo+i) (.slice ia l.length ic):=rd_vec (.there (.there (.there (.there .here)))) (by rw [List.getElem?_map,hwl];rfl)
  have hcw:(ia=none∧l.length=0)∨∃ b o,ia=some ⟨b,o,none⟩∧∀ j v,l[j]?=some v→Rd (arr b3 0 [.slice oa nw.length oc,.slice none 0 0]::vec 1 (.slice oa nw.length oc) (nw.map (·.1))::arr b1 0 [.slice (some ⟨vb,vo,none⟩) wl.length vc,.slice la lw.length lc]::arr b2 0 [.slice none 0 0,.slice none 0 0]::vec 1 (.slice (some ⟨vb,vo,none⟩) wl.length vc) (wl.map (·.1))::rowT (.slice ia l.length ic,l)::R) b (o+j) (num v):=by
   cases ia with
   | none=>exact .inl ⟨rfl,hia rfl⟩
   | some z =>
    obtain ⟨b,o,sp⟩:=z
    cases hia2 _ rfl
    exact .inr ⟨b,o,rfl,fun j v hj=>rd_vec (.there (.there (.there (.there (.there .here))))) (by rw [List.getElem?_map,hj];rfl)⟩
  have hov:∀ {L:List HProp},Rd (arr b3 0 [.slice oa nw.length oc,.slice none 0 0]::L) b3 0 (.slice oa nw.length oc):=fun {L}=>Rd.row0 rfl
  refine we_draw (List.range' 0 12) (by kernel_rfl) ?_
  repeat (first | (apply ap_pure;exact rfl;exact rfl;exact trivial;intro L;apply mo_index1;exact rfl;exact rfl;omega) | (apply ap_read;exact rfl;exact rfl;exact trivial;apply mo_load;exact rfl;exact hiv) | refine aM ?_ | refine aD ?_ | refine aL ?_)
  refine ap_callR rfl rfl rfl trivial rfl rfl (.cons rfl .nil) (copy_words_tr rfl hll hcw) ?_ ?_
  ·rintro v L' x' ⟨rfl,rfl⟩ q hq
   replace hq:=(List.mem_filter.1 hq).1
   simp only [List.mem_cons,List.not_mem_nil,or_false] at hq
   rcases hq with rfl | rfl | rfl | rfl | rfl | rfl | rfl <;> first | exact .inl rfl | exact .inr ⟨_,rfl,trivial,mo_load rfl (Rd.there hov)⟩ | exact .inr ⟨_,rfl,trivial,mo_load rfl (Rd.there hiv)⟩ | exact .inr ⟨_,rfl,trivial,mo_load rfl (Rd.there (.there (.there (Rd.row0 rfl))))⟩
  rintro v L' x' ⟨rfl,rfl⟩
  refine ap_know (of_has .here (vec_shape (by omega))) ?_
  rintro ⟨ca,cn,cc,rfl,_⟩
  refine ap_loudR rfl rfl rfl rfl trivial (mo_buildSlice (sz:=1) (vs:=[.slice ca cn cc]) rfl (.cons rfl .nil) rfl (by intro v hv;cases (List.mem_singleton.1 hv);exact rfl) (by omega)) ?_ ?_
  ·rintro v L' ⟨sb,rfl,rfl⟩ q hq
   replace hq:=(List.mem_filter.1 (List.mem_filter.1 hq).1).1
   simp only [List.mem_cons,List.not_mem_nil,or_false] at hq
   rcases hq with rfl | rfl | rfl | rfl | rfl | rfl | rfl <;> first | exact .inl rfl | exact .inr ⟨_,rfl,trivial,mo_load rfl (Rd.there (Rd.there hov))⟩ | exact .inr ⟨_,rfl,trivial,mo_load rfl (Rd.there (Rd.there hiv))⟩ | exact .inr ⟨_,rfl,trivial,mo_load rfl (Rd.there (Rd.there (.there (.there (Rd.row0 rfl)))))⟩
  rintro v L' ⟨sb,rfl,rfl⟩
  refine ap_loud rfl rfl rfl rfl rfl trivial (mo_append (sz:=1) (new:=[.slice ca cn cc]) rfl rfl rfl rfl (.there (.there (.there .here))) rfl (.inr ⟨_,_,rfl,Rds.all .here⟩) (by intro v hv;cases (List.mem_singleton.1 hv);exact rfl) (by simp only [sliceLen];omega)) ?_
  rintro v' L' rfl
  refine ap_know (of_has .here (vec_shape (by omega))) ?_
  rintro ⟨qa,ql,qc,rfl,_⟩
  repeat (first | refine aD ?_)
  refine ap_loud rfl rfl rfl rfl rfl trivial (mo_store rfl rfl rfl (Wt.row0 (k:=0) (.there (.there (.there .here))) (Nat.succ_pos 1))) ?_
  rintro v' L' ⟨rfl,rfl⟩
  refine ap_end ?_
  repeat (first | (refine wR ?_;try simp only [oS]) | refine wo_nil ?_ | refine wM ?_ | refine wA ?_ | refine wadd ?_)
  refine at_roundS (I:=copyInv1 b1 b2 b3 (.slice (some ⟨vb,vo,none⟩) wl.length vc) (.slice la lw.length lc) wl x' (vec 1 (.slice la lw.length lc) lw::all (lw.map lstT)::F)) (R:=fun i'=>wl.length-i'.1<wl.length-i) (i+1,.slice qa ql qc,nw++[(.slice ca cn cc,l)]) (by simp only;omega) ⟨by simp only;omega,?_⟩ ⟨rfl,rfl,rfl,rfl,trivial⟩ (fun h st=>?_) rfl
  ·simp only [List.map_append,List.map_cons,List.map_nil,hnw]
   rw [List.take_add_one,List.getElem?_map,hwl];rfl
  ·dsimp only [copyInv1]
   rw [hR] at st
   have s1:Star (rowT (.slice ia l.length ic,l)::all ((wl.map rowT).eraseIdx i)::vec 1 (.slice ca cn cc) (l.map num)::all (nw.map rowT)::arr b3 0 [.slice qa ql qc,.slice none 0 0]::vec 1 (.slice qa ql qc) (nw.map (·.1)++[.slice ca cn cc])::arr b1 0 [.slice (some ⟨vb,vo,none⟩) wl.length vc,.slice la lw.length lc]::arr b2 0 [.slice none 0 0,.slice none 0 0]::vec 1 (.slice (some ⟨vb,vo,none⟩) wl.length vc) (wl.map (·.1))::vec 1 (.slice la lw.length lc) lw::all (lw.map lstT)::F) h:=by
    refine Ent.star ?_ st
    exact .take (.there (.there (.there (.there (.there (.there (.there .here))))))) (.take (.there (.there (.there (.there (.there (.there (.there (.there .here)))))))) (.take (.there (.there .here)) (.take (.there (.there (.there (.there (.there (.there .here)))))) (.take (.there (.there .here)) (.take .here (.take (.there .here) (.take (.there .here) (.take (.there .here) (.drop .refl)))))))))
   have s2:=star_put (M:=wl.map rowT) (c:=rowT (.slice ia l.length ic,l)) (by simpa using hc) s1
   rw [show (wl.map rowT).set i (rowT (.slice ia l.length ic,l))=wl.map rowT from set_same (by rw [List.getElem?_map,hwl];rfl)] at s2
   have s3:=star_swap s2
   have s4:Star (all (nw.map rowT++[rowT (.slice ca cn cc,l)])::_) h:=star_push (star_map s3 (fun _ z=>z) (fun _ z=>star_swap z))
   simp only [List.map_append,List.map_cons,List.map_nil]
   refine Ent.star ?_ s4
   exact .take (.there (.there .here)) (.take (.there (.there .here)) (.take .here (.take (.there .here) (.take (.there .here) (.take (.there .here) (.take .here .refl))))))
 ·have hi':i=wl.length:=by omega
  have hnw':nw.map (·.2)=w.words:=by rw [hnw,hi',← e1];exact List.take_of_length_le (by simp)
  clear hi hnw
  subst hi'
  repeat (first | refine wlssF ?_ | refine we_seq ?_ | (refine wR ?_;try simp only [oS]) | refine wo_nil ?_ | refine wM ?_ | refine wA ?_ | refine wD ?_ | refine wL ?_ | refine wE ?_ | refine wF ?_ | refine we_exit ?_)
  refine we_block ?_
  obtain ⟨F2,hF2⟩:∃ F2,F2=vec 1 ov (nw.map (·.1))::all (nw.map rowT)::vec 1 (.slice va wl.length vc) (wl.map (·.1))::all (wl.map rowT)::F:=⟨_,rfl⟩
  refine we_star ((copyInv2 b1 b2 b3 (.slice va wl.length vc) (.slice la lw.length lc) ov lw x F2).L (0,.slice none 0 0,[])) (fun h st=>?_) ?_
  ·have st2:Star (arr b3 0 [ov,.slice none 0 0]::arr b1 0 [.slice va wl.length vc,.slice la lw.length lc]::arr b2 0 [.slice none 0 0,.slice none 0 0]::vec 1 (.slice la lw.length lc) lw::all (lw.map lstT)::F2) h:=by
    rw [hF2]
    refine Ent.star ?_ st
    exact .take .here (.take (.there (.there .here)) (.take (.there (.there .here)) (.take (.there (.there (.there (.there .here)))) (.take (.there (.there (.there (.there .here)))) .refl))))
   exact star_map st2 (fun _ z=>z) (fun _ z=>vec_nil (star_shut (M:=[]) z))
  refine we_loopN (copyInv2 b1 b2 b3 (.slice va wl.length vc) (.slice la lw.length lc) ov lw x F2) (fun i=>lw.length-i.1) (0,.slice none 0 0,[]) ⟨by simp,by simp⟩ ⟨rfl,rfl,rfl,rfl,trivial⟩ .refl rfl ?_
  rintro ⟨i,ol,nl⟩ ⟨hi,hnl⟩
  dsimp only [copyInv2] at hi hnl ⊢
  by_cases hc:i<lw.length
  ·obtain ⟨lv,hlv⟩:∃ z,lw[i]?=some z:=⟨lw[i],by simp [hc]⟩
   refine we_pure (of_has (.there .here) (vec_shape (by omega))) ?_
   rintro ⟨oa,on,oc,rfl,hon,_,_,_⟩
   have honn:on=nl.length:=by simpa using hon.symm
   subst honn
   obtain ⟨⟨lb,lo,sp⟩,rfl⟩:∃ z,la=some z:=by
    cases la with
    | none=>have:lw.length=0:=hla rfl;omega
    | some z=>exact ⟨z,rfl⟩
   cases hla2 _ rfl
   obtain ⟨R,hR⟩:∃ R,R=all (nl.map lstT)::all ((lw.map lstT).eraseIdx i)::arr b2 0 [.slice none 0 0,.slice none 0 0]::F2:=⟨_,rfl⟩
   refine we_star (vec 2 (.slice none 0 0) []::arr b3 0 [ov,.slice oa nl.length oc]::vec 1 (.slice oa nl.length oc) nl::arr b1 0 [.slice va wl.length vc,.slice (some ⟨lb,lo,none⟩) lw.length lc]::vec 1 (.slice (some ⟨lb,lo,none⟩) lw.length lc) lw::lstT lv::R) (fun h st=>vec_nil ?_) ?_
   ·rw [hR]
    have s1:Star (all (lw.map lstT)::arr b3 0 [ov,.slice oa nl.length oc]::vec 1 (.slice oa nl.length oc) nl::arr b1 0 [.slice va wl.length vc,.slice (some ⟨lb,lo,none⟩) lw.length lc]::vec 1 (.slice (some ⟨lb,lo,none⟩) lw.length lc) lw::all (nl.map lstT)::arr b2 0 [.slice none 0 0,.slice none 0 0]::F2) h:=by
     refine Ent.star ?_ st
     exact .take (.there (.there (.there (.there (.there (.there .here)))))) (.take .here (.take .here (.take (.there .here) (.take (.there (.there .here)) (.take .here (.take .here .refl))))))
    have s2:=star_pick (i:=i) (c:=lstT lv) (by rw [List.getElem?_map,hlv];rfl) s1
    refine Ent.star ?_ s2
    exact .take (.there (.there .here)) (.take (.there (.there .here)) (.take (.there (.there .here)) (.take (.there (.there .here)) (.take .here (.take (.there .here) (.take .here .refl))))))
   refine we_pure (of_has (.there (.there (.there (.there (.there .here))))) (vec_shape (by omega))) ?_
   rintro ⟨ia,inn,ic,hiv,hin,_,hia,hia2⟩
   subst hiv
   have hinn:inn=0:=by simp only [List.length_nil] at hin;omega
   subst hinn
   repeat (first | refine wlssT ?_ | refine we_seq ?_ | (refine wR ?_;try simp only [oS]) | refine wo_nil ?_ | refine wM ?_ | refine wA ?_ | refine wD ?_ | refine wL ?_ | refine wE ?_ | refine wT ?_ | refine we_skip ?_ | refine we_block ?_)
   have hov:∀ {c:HProp} {L:List HProp},Rd (c::arr b3 0 [ov,.slice oa nl.length oc]::L) b3 1 (.slice oa nl.length oc):=fun {c L}=>.there (Rd.row0 rfl)
   have hli:Rd (vec 2 (.slice none 0 0) []::arr b3 0 [ov,.slice oa nl.length oc]::vec 1 (.slice oa nl.length oc) nl::arr b1 0 [.slice va wl.length vc,.slice (some ⟨lb,lo,none⟩) lw.length lc]::vec 1 (.slice (some ⟨lb,lo,none⟩) lw.length lc) lw::lstT (.slice ia 0 ic)::R) lb (lo+i) (.slice ia 0 ic):=rd_vec (.there (.there (.there (.there .here)))) hlv
   refine we_draw (List.range' 0 13) (by kernel_rfl) ?_
   repeat (first | (apply ap_pure;exact rfl;exact rfl;exact trivial;intro L;apply mo_index1;exact rfl;exact rfl;omega) | (apply ap_read;exact rfl;exact rfl;exact trivial;apply mo_load;exact rfl;exact hli) | refine aM ?_ | refine aD ?_ | refine aL ?_)
   have hnew:(ia=none∧(0:Nat)=0)∨∃ xbb xo',ia=some ⟨xbb,xo',none⟩∧Rds (vec 2 (.slice none 0 0) []::arr b3 0 [ov,.slice oa nl.length oc]::vec 1 (.slice oa nl.length oc) nl::arr b1 0 [.slice va wl.length vc,.slice (some ⟨lb,lo,none⟩) lw.length lc]::vec 1 (.slice (some ⟨lb,lo,none⟩) lw.length lc) lw::lstT (.slice ia 0 ic)::R) xbb xo' []:=by
    cases ia with
    | none=>exact .inl ⟨rfl,rfl⟩
    | some z =>
     obtain ⟨b,o,sp⟩:=z
     cases hia2 _ rfl
     exact .inr ⟨b,o,rfl,fun j v hj=>by simp at hj⟩
   refine ap_loudR rfl rfl rfl rfl trivial (mo_append (sz:=2) (new:=[]) rfl rfl rfl rfl .here rfl (hnew.imp And.right id) (by intro v hv;cases hv) (by simp only [sliceLen];omega)) ?_ ?_
   ·rintro v L' rfl q hq
    replace hq:=(List.mem_filter.1 hq).1
    simp only [List.mem_cons,List.not_mem_nil,or_false] at hq
    rcases hq with rfl | rfl | rfl | rfl | rfl | rfl | rfl | rfl <;> first | exact .inl rfl | exact .inr ⟨_,rfl,trivial,mo_load rfl hov⟩ | exact .inr ⟨_,rfl,trivial,mo_load rfl (.there (.there (.there (Rd.row0 rfl))))⟩ | exact .inr ⟨_,rfl,trivial,mo_load rfl (rd_vec (.there (.there (.there (.there .here)))) hlv)⟩
   rintro v' L' rfl
   refine ap_know (of_has .here (vec_shape (by omega))) ?_
   rintro ⟨ca,cn,cc,rfl,_⟩
   refine ap_loudR rfl rfl rfl rfl trivial (mo_buildSlice (sz:=1) (vs:=[.slice ca cn cc]) rfl (.cons rfl .nil) rfl (by intro v hv;cases (List.mem_singleton.1 hv);exact rfl) (by omega)) ?_ ?_
   ·rintro v L' ⟨sb,rfl,rfl⟩ q hq
    replace hq:=(List.mem_filter.1 (List.mem_filter.1 hq).1).1
    simp only [List.mem_cons,List.not_mem_nil,or_false] at hq
    rcases hq with rfl | rfl | rfl | rfl | rfl | rfl | rfl | rfl <;> first | exact .inl rfl | exact .inr ⟨_,rfl,trivial,mo_load rfl (.there hov)⟩ | exact .inr ⟨_,rfl,trivial,mo_load rfl (.there (.there (.there (.there (Rd.row0 rfl)))))⟩ | exact .inr ⟨_,rfl,trivial,mo_load rfl (.there (rd_vec (.there (.there (.there (.there .here)))) hlv))⟩
   rintro v' L' ⟨sb,rfl,rfl⟩
   refine ap_loud rfl rfl rfl rfl rfl trivial (mo_append (sz:=1) (new:=[.slice ca cn cc]) rfl rfl rfl rfl (.there (.there (.there .here))) rfl (.inr ⟨_,_,rfl,Rds.all .here⟩) (by intro v hv;cases (List.mem_singleton.1 hv);exact rfl) (by simp only [sliceLen];omega)) ?_
   rintro v' L' rfl
   refine ap_know (of_has .here (vec_shape (by omega))) ?_
   rintro ⟨qa,ql,qc,rfl,_⟩
   repeat (first | refine aD ?_)
   refine ap_loud rfl rfl rfl rfl rfl trivial (mo_store rfl rfl rfl (Wt.row0 (k:=1) (.there (.there (.there .here))) (Nat.lt_succ_self 1))) ?_
   rintro v' L' ⟨rfl,rfl⟩
   refine ap_end ?_
   repeat (first | (refine wR ?_;try simp only [oS]) | refine wo_nil ?_ | refine wM ?_ | refine wA ?_ | refine wadd ?_)
   refine at_roundS (I:=copyInv2 b1 b2 b3 (.slice va wl.length vc) (.slice (some ⟨lb,lo,none⟩) lw.length lc) ov lw x F2) (R:=fun i'=>lw.length-i'.1<lw.length-i) (i+1,.slice qa ql qc,nl++[.slice ca cn cc]) (by simp only;omega) ⟨by simp only;omega,by simp [hnl]⟩ ⟨rfl,rfl,rfl,rfl,trivial⟩ (fun h st=>?_) rfl
   dsimp only [copyInv2]
   rw [hR] at st
   have s1:Star (lstT (.slice ia 0 ic)::all ((lw.map lstT).eraseIdx i)::lstT (.slice ca cn cc)::all (nl.map lstT)::arr b3 0 [ov,.slice qa ql qc]::vec 1 (.slice qa ql qc) (nl++[.slice ca cn cc])::arr b1 0 [.slice va wl.length vc,.slice (some ⟨lb,lo,none⟩) lw.length lc]::arr b2 0 [.slice none 0 0,.slice none 0 0]::vec 1 (.slice (some ⟨lb,lo,none⟩) lw.length lc) lw::F2) h:=by
    refine Ent.star ?_ st
    exact (.take (.there (.there (.there (.there (.there (.there .here)))))) (.take (.there (.there (.there (.there (.there (.there (.there .here))))))) (.take (.there (.there .here)) (.take (.there (.there (.there (.there (.there .here))))) (.take (.there (.there .here)) (.take .here (.take (.there .here) (.take (.there (.there .here)) (.take (.there .here) (.drop .refl))))))))))
   have s2:=star_put (M:=lw.map lstT) (c:=lstT (.slice ia 0 ic)) (by simpa using hc) s1
   rw [set_same (by rw [List.getElem?_map,hlv];rfl)] at s2
   have s3:=star_swap s2
   have s4:Star (all (nl.map lstT++[lstT (.slice ca cn cc)])::_) h:=star_push (star_map s3 (fun _ z=>z) (fun _ z=>star_swap z))
   simp only [List.map_append,List.map_cons,List.map_nil]
   refine Ent.star ?_ s4
   exact .take (.there (.there .here)) (.take (.there (.there .here)) (.take .here (.take (.there .here) (.take (.there .here) (.take (.there .here) (.take .here .refl))))))
  ·have hi':i=lw.length:=by omega
   clear hi
   subst hi'
   repeat (first | refine wlssF ?_ | refine we_seq ?_ | (refine wR ?_;try simp only [oS]) | refine wo_nil ?_ | refine wM ?_ | refine wD ?_ | refine wL ?_ | refine wE ?_ | refine wF ?_ | refine we_exit ?_)
   refine wo_pure (of_has (.there .here) (vec_shape (by omega))) ?_
   rintro ⟨qa,qn,qc,rfl,_⟩
   refine wo_pure (of_has (c:=vec 1 ov (nw.map (·.1))) (by rw [hF2];exact (.there (.there (.there (.there (.there (.there (.there .here)))))))) (vec_shape (by omega))) ?_
   rintro ⟨pa,pn,pc,rfl,_⟩
   have hr3:Rds (arr b3 0 [.slice pa pn pc,.slice qa qn qc]::vec 1 (.slice qa qn qc) nl::all (nl.map lstT)::arr b1 0 [.slice va wl.length vc,.slice la lw.length lc]::arr b2 0 [.slice none 0 0,.slice none 0 0]::vec 1 (.slice la lw.length lc) lw::all (lw.map lstT)::F2) b3 0 [.slice pa pn pc,.slice qa qn qc]:=Rds.all .here
   repeat (first | (apply wo_po;apply mo_loadA (vs:=[.slice pa pn pc,.slice qa qn qc]);exact rfl;exact rfl;exact hr3;exact trivial))
   refine wo_pm (mo_storeA (c:=0) (k:=0) (a:=0) (vs:=[.slice none 0 0,.slice none 0 0]) rfl rfl rfl (by intro w hw;simp [Value.cells] at hw;rcases hw with rfl | rfl <;> rfl) rfl (Nat.le_refl 2) (.there (.there (.there (.there .here))))) trivial ?_
   repeat (first | refine wo_nil ?_ | refine we_ret ?_)
   refine at_leaveM (rs:=[.cell 2 32]) Try.func59 Try.results59 hQ (.inl rfl) (.cons (.cell (vs:=[.slice pa pn pc,.slice qa qn qc]) rfl rfl (Rds.all (.there (.there (.there (.there .here)))))) .nil) ?_
   refine ⟨_,_,rfl,rfl,fun h st=>?_⟩
   rw [hF2] at st
   have s1:Star (vec 1 (.slice qa qn qc) nl::all (nl.map lstT)::vec 1 (.slice pa pn pc) (nw.map (·.1))::all (nw.map rowT)::vec 1 (.slice la lw.length lc) lw::all (lw.map lstT)::vec 1 (.slice va wl.length vc) (wl.map (·.1))::all (wl.map rowT)::F) h:=by
    refine Ent.star ?_ st
    exact (.take (.there .here) (.take (.there .here) (.take (.there (.there (.there (.there (.there .here))))) (.take (.there (.there (.there (.there (.there .here))))) (.take (.there (.there (.there .here))) (.take (.there (.there (.there .here))) (.drop (.drop (.drop .refl)))))))))
   exact star_map (wv_shut hnw' hok (hnl.trans hlw) s1) (fun _ z=>z) (fun _ z=>wv_shut e1 hok hlw z)
end
section
structure PT where
 tb:Nat
 cw:CW
 cs:List Mach.Cl
def PT.cv (p:PT):Value:=p.cw.v p.cs.length
def thK (y:PT × Mach.Th):HProp:=thC y.1.tb y.1.cv y.2
def ptrK (y:PT × Mach.Th):Value:=.pointer (some ⟨y.1.tb,0,none⟩)
def trC (e:Nat × Nat × Nat):List Value:=[.int .i64 (e.1:Nat),.int .u8 (e.2.1:Nat),.int .i64 (e.2.2:Nat)]
abbrev Calls:=List (CW × List Mach.Cl)
def cvK (y:CW × List Mach.Cl):Value:=y.1.v y.2.length
structure CallsOk (F:List HProp) (cc:Calls):Prop where
 n:cc.length<1000
 obs:∀ y∈cc,Obs F (codeC y.1 y.2)
 ok:∀ y∈cc,(y.2.all Mach.Cl.ok)=true
 len:∀ y∈cc,y.2.length<1000000
theorem CallsOk.there {F:List HProp} {cc:Calls} {d:HProp} (c:CallsOk F cc):CallsOk (d::F) cc:=⟨c.n,fun y hy=>(c.obs y hy).there,c.ok,c.len⟩
variable {B:Hand} [Lets B] {L F G:List HProp} {x:B.X}
theorem new_th {tb:Nat} {cv:Value} {cs:List Mach.Cl} {h:Hp} (s:Star (arr tb 0 (thCells cv { calls:=cs } (.slice none 0 0))::L) h):Star (thC tb cv { calls:=cs }::L) h:=by
 refine th_close (y:=(.slice none 0 0,[])) rfl (fun _=>by show 0<18446744073709551616;omega) ?_
 exact star_map s (fun _ z=>z) (fun _ z=>vec_nil (star_shut (M:=[]) z))
omit [Lets B] in
theorem wv_shape {wv lv:Value} {w:Mach.Wd}:∀ h,wvC wv lv w h→(∃ a n c,wv=.slice a n c)∧∃ a n c,lv=.slice a n c:=by
 rintro h ⟨wl,h1,h2,h3,h4,s1,q1,q2⟩
 obtain ⟨h5,h6,s2,⟨lw,q3,h7,h8,s3,q4,q5⟩,q6⟩:=q2
 obtain ⟨a,n,c,e1,_⟩:=vec_shape (by omega) _ q1
 obtain ⟨a',n',c',e2,_⟩:=vec_shape (by omega) _ q4
 exact ⟨⟨a,n,c,e1⟩,a',n',c',e2⟩
omit [Lets B] in
theorem wd_of_wv {wb:Nat} {wv lv:Value} {w:Mach.Wd} {h:Hp} (s:Star (arr wb 0 [wv,lv]::wvC wv lv w::F) h):Star (wdC wb w::F) h:=by
 obtain ⟨wl,s⟩:=star_ex (star_swap s)
 obtain ⟨e1,s⟩:=star_and s
 obtain ⟨e2,s⟩:=star_and s
 have s2:Star (wdB wv lv wl w.nl++(arr wb 0 [wv,lv]::F)) h:=star_open s
 refine wd_close (y:=(wv,lv,wl)) e1 e2 ?_
 refine Ent.star ?_ s2
 exact (.take (.there (.there (.there .here))) .refl)
def playInv1 (b3 b6 b8 wb:Nat) (ov tv:Value) (cc:Calls) (x:B.X) (F:List HProp):Inv (Nat × Value × List (PT × Mach.Th)) B.X where
 e:=fun i=>[(1,ov),(2,tv),(6,.pointer (some ⟨b6,0,none⟩)),(8,.pointer (some ⟨b8,0,none⟩)),(9,.pointer (some ⟨wb,0,none⟩)),(10,i.2.1),(11,.int .i64 (i.1:Nat))]
 L:=fun i=>vec 1 i.2.1 (i.2.2.map ptrK)::all (i.2.2.map thK)::vec 1 tv (cc.map cvK)::F
 x:=fun _=>x
 ok:=fun i=>i.1≤cc.length∧i.2.2.map (fun y=>(y.1.cw,y.1.cs))=cc.take i.1∧i.2.2.map (·.2)=(cc.take i.1).map fun y=>({ calls:=y.2 }:Mach.Th)
theorem begin_get {f:Nat}:∀ {l l':List Mach.Th},Mach.begin_ f l=some l'→l'.length=l.length∧∀ (i:Nat) t,l[i]?=some t→∃ t',Mach.onF f t=some t'∧l'[i]?=some t':=by
 intro l
 induction l with
 | nil=>intro l' h;cases h;exact ⟨rfl,fun i t h=>by simp at h⟩
 | cons a l ih =>
  intro l' h
  unfold Mach.begin_ at h
  cases h1:Mach.onF f a with
  | none=>rw [h1] at h;cases h
  | some a' =>
   rw [h1,Option.bind_some] at h
   cases h2:Mach.begin_ f l with
   | none=>rw [h2] at h;cases h
   | some m =>
    rw [h2] at h
    cases h
    obtain ⟨e1,e2⟩:=ih h2
    refine ⟨by simp [e1],fun i t ht=>?_⟩
    cases i with
    | zero=>cases ht;exact ⟨a',h1,rfl⟩
    | succ i=>exact e2 i t (by simpa using ht)
theorem take_set_drop {α:Type} {l m:List α} {i:Nat} {a:α} (hl:l[i]?=some a) (hm:i<m.length):(l.take i++m.drop i).set i a=l.take (i+1)++m.drop (i+1):=by
 have hlt:i<l.length:=(List.getElem?_eq_some_iff.1 hl).1
 have h1:(l.take i).length=i:=by simp;omega
 have h2:m.drop i=m[i]::m.drop (i+1):=List.drop_eq_getElem_cons hm
 rw [List.set_append_right _ _ (by omega),h1,Nat.sub_self,List.take_add_one,hl,h2,List.set_cons_zero]
 simp
theorem init_good {cs:List Mach.Cl} {k:Nat} (h1:(cs.all Mach.Cl.ok)=true) (h2:cs.length<1000000):Good cs { calls:=cs } k :=
 ⟨rfl,h1,h2,by show 0<1000000;omega,Nat.zero_le _,Nat.zero_le _,Nat.zero_le _,fun y hy=>by cases hy⟩
def playInv2 (b6 b8 wb:Nat) (ov tv lv:Value) (pts:List PT) (l0 l1:List Mach.Th) (x:B.X) (F:List HProp):Inv (Nat × List (PT × Mach.Th)) B.X where
 e:=fun i=>[(1,ov),(2,tv),(6,.pointer (some ⟨b6,0,none⟩)),(8,.pointer (some ⟨b8,0,none⟩)),(9,.pointer (some ⟨wb,0,none⟩)),(10,lv),(12,.int .i64 (i.1:Nat))]
 L:=fun i=>vec 1 lv (i.2.map ptrK)::all (i.2.map thK)::F
 x:=fun _=>x
 ok:=fun i=>i.1≤pts.length∧i.2.map (·.1)=pts∧i.2.map (·.2)=l1.take i.1++l0.drop i.1
end
section
def Stands (t:Mach.Th):Prop:=t.over=true∨Mach.told t.next.op=true∧t.call<t.calls.length
theorem onF_stands:∀ {f:Nat} {t t':Mach.Th},Mach.onF f t=some t'→Stands t':=by
 intro f
 induction f with
 | zero=>intro t t' h;cases h
 | succ f ih =>
  intro t t' h
  unfold Mach.onF at h
  split at h
  ·cases h;exact .inl (by assumption)
  split at h
  ·cases h;exact .inl rfl
  split at h
  ·cases h
   rename_i h2 h3
   refine .inr ⟨h3,?_⟩
   unfold Mach.Th.begun
   split <;> exact Nat.lt_of_not_le h2
  split at h
  ·exact ih h
  ·exact ih h
theorem Good.mono {cs:List Mach.Cl} {t:Mach.Th} {k k':Nat} (g:Good cs t k) (h:k'≤k):Good cs t k' :=
 ⟨g.calls,g.ok,g.len,g.pc,g.call,g.ans1,g.ans2,fun y hy=>by have:=g.room y hy;omega⟩
structure PlayOk (f:Nat) (s:Mach.St) (q:List (PT × Mach.Th)):Prop where
 l:q.map (·.2)=s.l
 tr:s.tr.length≤16384
 good:∀ y∈q,Good y.1.cs y.2 ((16384-s.tr.length)*(f+1))
 st:∀ y∈q,Stands y.2
theorem opF_good {cs:List Mach.Cl} {f k:Nat} {w w':Mach.Wd} {t t':Mach.Th} (hlt:t.call<cs.length) (g:Good cs t (k+(f+1))) (hk:k+(f+1)<1000000000) (h0:Mach.told t.next.op=true) (h:Mach.opF f w t=some (w',t')):Good cs t' k∧Stands t':=by
 unfold Mach.opF at h
 split at h
 ·dsimp only at h
  cases h1:Mach.onF f { t with pc:=t.pc+1,r:=(Mach.op1 t.next (w.row t.next.on) t.place t.r).2 } with
  | none=>rw [h1] at h;cases h
  | some t1 =>
   rw [h1] at h
   simp only [Option.map_some,Option.some.injEq,Prod.mk.injEq] at h
   obtain ⟨_,rfl⟩:=h
   have hpc:t.pc+1<1000000:=by
    rcases g.next hlt with h | ⟨_,h⟩
    ·rw [h] at h0;cases h0
    ·exact h
   refine ⟨Good.onF (t:={ t with pc:=t.pc+1,r:=(Mach.op1 t.next (w.row t.next.on) t.place t.r).2 }) (k:=k) (f:=f) ⟨g.calls,g.ok,g.len,hpc,g.call,g.ans1,g.ans2,fun y hy=>by have:=g.room y hy;omega⟩ (by omega) h1,onF_stands h1⟩
 ·cases h
theorem turn_ok {f k:Nat} {s s':Mach.St} {q:List (PT × Mach.Th)} {pt:PT} {t:Mach.Th} (p:PlayOk f s q) (hf:16384*(f+1)+f<1000000000) (hq:q[k]?=some (pt,t)) (hlt:s.tr.length<16384) (ho:t.over=false) (h:Mach.turn f s k=some s') :
  ∃ w' t',Mach.opF f s.w t=some (w',t')∧s'=⟨w',s.l.set k t',s.tr++[(k,t.mark)]⟩∧PlayOk f s' (q.set k (pt,t'))∧Good pt.cs t (f+1)∧t.call<pt.cs.length∧Mach.told t.next.op=true:=by
 have hm:=List.mem_of_getElem? hq
 have g:=p.good _ hm
 have hst:Mach.told t.next.op=true∧t.call<t.calls.length:=by
  rcases p.st _ hm with h | h
  ·rw [ho] at h;cases h
  ·exact h
 have hcl:t.calls=pt.cs:=g.calls
 rw [hcl] at hst
 have hl:s.l[k]?=some t:=by rw [← p.l,List.getElem?_map,hq];rfl
 have e1:(16384-s.tr.length)*(f+1)=(16384-(s.tr.length+1))*(f+1)+(f+1):=by
  rw [← Nat.succ_mul];congr 1;omega
 have e2:(16384-s.tr.length)*(f+1)≤16384*(f+1):=Nat.mul_le_mul_right _ (by omega)
 unfold Mach.turn at h
 rw [hl] at h
 dsimp only at h
 cases ho1:Mach.opF f s.w t with
 | none=>rw [ho1] at h;cases h
 | some y =>
  obtain ⟨w',t'⟩:=y
  rw [ho1] at h
  cases h
  have g':Good pt.cs t ((16384-(s.tr.length+1))*(f+1)+(f+1)):=by rw [← e1];exact g
  obtain ⟨g2,st2⟩:=opF_good hst.2 g' (by omega) hst.1 ho1
  refine ⟨w',t',rfl,rfl,⟨?_,?_,?_,?_⟩,g.mono (by omega),hst.2,hst.1⟩
  ·show (q.set k (pt,t')).map (·.2)=s.l.set k t'
   rw [List.map_set,p.l]
  ·show (s.tr++[(k,t.mark)]).length≤16384
   simp;omega
  ·intro y hy
   show Good y.1.cs y.2 ((16384-(s.tr++[(k,t.mark)]).length)*(f+1))
   rw [List.length_append,List.length_cons,List.length_nil]
   rcases List.mem_or_eq_of_mem_set hy with h | rfl
   ·exact (p.good y h).mono (by show (16384-(s.tr.length+1))*(f+1)≤_;omega)
   ·exact g2
  ·intro y hy
   rcases List.mem_or_eq_of_mem_set hy with h | rfl
   ·exact p.st y h
   ·exact st2
theorem byOrder_full {f:Nat} {s:Mach.St} (h:16384≤s.tr.length):∀ o,Mach.byOrder f s o=some s:=by
 intro o
 induction o with
 | nil=>rfl
 | cons k o ih =>
  cases k with
  | none=>exact ih
  | some k =>
   unfold Mach.byOrder
   rw [if_neg (by unfold Mach.may;simp;intro h1;omega)]
   exact ih
theorem may_true {s:Mach.St} {k:Nat} {t:Mach.Th} (h1:s.tr.length<16384) (h2:s.l[k]?=some t) (h3:t.over=false):Mach.may s k=true:=by
 unfold Mach.may;rw [h2];simp [h1,h3]
theorem may_over {s:Mach.St} {k:Nat} {t:Mach.Th} (h2:s.l[k]?=some t) (h3:t.over=true):Mach.may s k=false:=by
 unfold Mach.may;rw [h2];simp [h3]
theorem may_none {s:Mach.St} {k:Nat} (h2:s.l[k]?=none):Mach.may s k=false:=by
 unfold Mach.may;rw [h2];simp
theorem may_full {s:Mach.St} {k:Nat} (h:16384≤s.tr.length):Mach.may s k=false:=by
 unfold Mach.may;simp;intro h1;omega
def playInv3 {B:Hand} (b6 b8 wb pb:Nat) (ov tv lv:Value) (pts:List PT) (f:Nat) (oN:List (Option Nat)) (s1:Mach.St) (x:B.X) (F:List HProp):Inv (Nat × Value × Mach.St × List (PT × Mach.Th)) B.X where
 e:=fun i=>[(1,ov),(2,tv),(6,.pointer (some ⟨b6,0,none⟩)),(8,.pointer (some ⟨b8,0,none⟩)),(9,.pointer (some ⟨wb,0,none⟩)),(10,lv),(13,.pointer (some ⟨pb,0,none⟩)),(14,.int .i64 (i.1:Nat))]
 L:=fun i=>arr pb 0 [i.2.1,.slice none 0 0]::vec 3 i.2.1 (i.2.2.1.tr.map trC).flatten::vec 1 lv (i.2.2.2.map ptrK)::all (i.2.2.2.map thK)::wdC wb i.2.2.1.w::F
 x:=fun _=>x
 ok:=fun i=>i.1≤oN.length∧Mach.byOrder f i.2.2.1 (oN.drop i.1)=some s1∧i.2.2.2.map (·.1)=pts∧PlayOk f i.2.2.1 i.2.2.2
def playMid {B:Hand} (b6 b8 wb pb:Nat) (ov tv lv:Value) (pts:List PT) (f:Nat) (s:Mach.St) (x:B.X) (F:List HProp):Inv (Value × List (PT × Mach.Th)) B.X where
 e:=fun _=>[(1,ov),(2,tv),(6,.pointer (some ⟨b6,0,none⟩)),(8,.pointer (some ⟨b8,0,none⟩)),(9,.pointer (some ⟨wb,0,none⟩)),(10,lv),(13,.pointer (some ⟨pb,0,none⟩))]
 L:=fun i=>arr pb 0 [i.1,.slice none 0 0]::vec 3 i.1 (s.tr.map trC).flatten::vec 1 lv (i.2.map ptrK)::all (i.2.map thK)::wdC wb s.w::F
 x:=fun _=>x
 ok:=fun i=>i.2.map (·.1)=pts∧PlayOk f s i.2
variable {B:Hand} [Lets B] {L F G:List HProp} {x:B.X}
theorem tr_len {l:List (Nat × Nat × Nat)} {n:Nat} (h:(l.map trC).flatten.length=n*3):n=l.length:=by
 rw [flat_len (k:=3) (fun _=>rfl)] at h;omega
end
end Go.Proofs.Ytmkkanmkjfnpdaa
namespace Go.PB.Mach
def St.cut (s:St):List Nat:=(List.range s.l.length).filter fun k=>match s.l[k]? with | some t=>!t.over | none=>false
end Go.PB.Mach
namespace Go.Proofs.Ytmkkanmkjfnpdaa
open Go Go.PB
attribute [local irreducible] Mo Bin Eql Tr Wo Ap
variable {B:Hand} [Lets B] {L F G:List HProp} {x:B.X}
def ansK (y:Value × List (Bool × List Nat)):HProp:=fun h=>∃ al:List (Bool × Value × List Nat),al.map ansOf=y.2∧all [vec 2 y.1 (al.map ansV).flatten,all (al.map ansT)] h
def cI (k:Nat):Value:=.int .i64 (k:Nat)
def playR (x:B.X) (F:List HProp) (st:Mach.St) (v:Value) (L':List HProp) (x':B.X):Prop :=
 ∃ trv cutv ansv wv lv:Value,∃ os:List (Value × List (Bool × List Nat)),v=.tuple #[.agg #[trv,cutv],ansv,.agg #[wv,lv]]∧x'=x∧os.map (·.2)=st.l.map (·.ans) ∧
  ∀ h,Star L' h→Star (vec 3 trv (st.tr.map trC).flatten::vec 1 cutv (st.cut.map cI)::vec 1 ansv (os.map (·.1))::all (os.map ansK)::wvC wv lv st.w::F) h
omit [Lets B] in
theorem we_wd {kd:CallKind} {n:Nat} {K:Post B} {e:Env} {z:Z} {c:Code} {wb:Nat} {w:Mach.Wd} (hh:Has L (wdC wb w) F) (k:∀ wv lv,We Try.prog B kd n c K e z (arr wb 0 [wv,lv]::wvC wv lv w::F) x):We Try.prog B kd n c K e z L x :=
 we_ex hh fun y=>we_and .here fun e1=>we_and .here fun e2=>we_star (arr wb 0 [y.1,y.2.1]::wvC y.1 y.2.1 w::F) (fun h s=>star_map (star_open s) (fun _ z=>z) (fun _ z=>wv_close (wl:=y.2.2) e1 e2 z)) (k y.1 y.2.1)
def cutTo (q:List (PT × Mach.Th)) (k:Nat):List Nat:=(List.range k).filter fun j=>match q[j]? with | some y=>!y.2.over | none=>false
theorem cut_succ {q:List (PT × Mach.Th)} {k:Nat} {y:PT × Mach.Th} (h:q[k]?=some y):cutTo q (k+1)=if y.2.over=true then cutTo q k else cutTo q k++[k]:=by
 by_cases ho:y.2.over=true
 ·rw [if_pos ho];unfold cutTo;rw [List.range_succ,List.filter_append];simp [h,ho]
 ·rw [if_neg ho];unfold cutTo;rw [List.range_succ,List.filter_append];simp [h,ho]
def outInv (b6 b8 wb pb:Nat) (lv trv:Value) (q:List (PT × Mach.Th)) (x:B.X) (F:List HProp):Inv (Nat × Value × Value × List (Value × List (Bool × List Nat))) B.X where
 e:=fun i=>[(6,.pointer (some ⟨b6,0,none⟩)),(8,.pointer (some ⟨b8,0,none⟩)),(9,.pointer (some ⟨wb,0,none⟩)),(10,lv),(13,.pointer (some ⟨pb,0,none⟩)),(18,i.2.1),(19,.int .i64 (i.1:Nat))]
 L:=fun i=>arr pb 0 [trv,i.2.2.1]::vec 1 i.2.2.1 ((cutTo q i.1).map cI)::vec 1 i.2.1 (i.2.2.2.map (·.1))::all (i.2.2.2.map ansK)::all ((q.drop i.1).map thK)::vec 1 lv (q.map ptrK)::F
 x:=fun _=>x
 ok:=fun i=>i.1≤q.length∧i.2.2.2.map (·.2)=(q.take i.1).map fun y=>y.2.ans
def outMid (b6 b8 wb pb:Nat) (lv trv ov:Value) (q:List (PT × Mach.Th)) (k:Nat) (x:B.X) (L:List HProp):Inv Value B.X where
 e:=fun _=>[(6,.pointer (some ⟨b6,0,none⟩)),(8,.pointer (some ⟨b8,0,none⟩)),(9,.pointer (some ⟨wb,0,none⟩)),(10,lv),(13,.pointer (some ⟨pb,0,none⟩)),(18,ov),(19,.int .i64 (k:Nat))]
 L:=fun i=>arr pb 0 [trv,i]::vec 1 i ((cutTo q (k+1)).map cI)::L
 x:=fun _=>x
 ok:=fun _=>True
set_option maxHeartbeats 8000000 in
theorem play_tail3 {um:FrameMode} {Q:PB.End→FrameMode→Hp→B.X→Prop} [pkk:Pass (leave Try.prog B 31 .normal Q) ⟨[],um⟩] {b6 b8 wb pb:Nat} {ov0 tv trv:Value} {st:Mach.St} {q:List (PT × Mach.Th)} {qa:Option Addr} {qc:Nat} (hqn:q.length<1000)
  (hl:q.map (·.2)=st.l) (hqa:qa=none→q.length=0) (hqa2:∀ y,qa=some y→y=⟨y.block,y.off,none⟩)
  (hQ:∀ v L' x' h',playR x F st v L' x'→Star L' h'→Q (.ret v) um h' x') :
  We Try.prog B .normal 159 (seqTail 8 ((Try.f31.body).getD .skip)) (leave Try.prog B 31 .normal Q)
   [(1,ov0),(2,tv),(6,.pointer (some ⟨b6,0,none⟩)),(8,.pointer (some ⟨b8,0,none⟩)),(9,.pointer (some ⟨wb,0,none⟩)),(10,.slice qa q.length qc),(13,.pointer (some ⟨pb,0,none⟩))] ⟨[],um⟩
   (arr pb 0 [trv,.slice none 0 0]::vec 3 trv (st.tr.map trC).flatten::vec 1 (.slice qa q.length qc) (q.map ptrK)::all (q.map thK)::wdC wb st.w::arr b6 0 [.slice none 0 0,.slice none 0 0]::arr b8 0 [.slice none 0 0,.slice none 0 0]::F) x:=by
 obtain ⟨F2,hF2⟩:∃ F2,F2=vec 3 trv (st.tr.map trC).flatten::wdC wb st.w::arr b6 0 [.slice none 0 0,.slice none 0 0]::arr b8 0 [.slice none 0 0,.slice none 0 0]::F:=⟨_,rfl⟩
 repeat (first | refine we_seq ?_ | (refine wR ?_;try simp only [oS]) | refine wo_nil ?_ | refine wA ?_)
 refine we_block ?_
 refine we_star ((outInv b6 b8 wb pb (.slice qa q.length qc) trv q x F2).L (0,.slice none 0 0,.slice none 0 0,[])) (fun h hs=>?_) ?_
 ·rw [hF2]
  have s1:Star (arr pb 0 [trv,.slice none 0 0]::all (q.map thK)::vec 1 (.slice qa q.length qc) (q.map ptrK)::vec 3 trv (st.tr.map trC).flatten::wdC wb st.w::arr b6 0 [.slice none 0 0,.slice none 0 0]::arr b8 0 [.slice none 0 0,.slice none 0 0]::F) h:=by
   refine Ent.star ?_ hs
   repeat (first | exact Ent.refl | (apply Ent.take;(repeat (first | exact Has.here | apply Has.there))) | apply Ent.drop)
  exact star_map s1 (fun _ z=>z) (fun _ z=>vec_nil (vec_nil (star_shut (M:=[]) z)))
 refine we_loopN (outInv b6 b8 wb pb (.slice qa q.length qc) trv q x F2) (fun i=>q.length-i.1) (0,.slice none 0 0,.slice none 0 0,[]) ⟨Nat.zero_le _,rfl⟩ ⟨rfl,rfl,rfl,rfl,rfl,rfl,rfl,trivial⟩ .refl rfl ?_
 rintro ⟨k,ov,cutv,os⟩ ⟨hk,hos⟩
 dsimp only [outInv] at hk hos ⊢
 have hosn:os.length=k:=by have:=congrArg List.length hos;simpa [Nat.min_eq_left hk] using this
 by_cases hc:k<q.length
 ·obtain ⟨⟨pt,t⟩,hqk⟩:∃ z,q[k]?=some z:=⟨q[k],by simp [hc]⟩
  obtain ⟨⟨qb,qo,sp⟩,rfl⟩:∃ z,qa=some z:=by
   cases qa with
   | none=>have:q.length=0:=hqa rfl;omega
   | some z=>exact ⟨z,rfl⟩
  cases hqa2 _ rfl
  have hdrop:q.drop k=(pt,t)::q.drop (k+1):=by
   rw [List.drop_eq_getElem_cons hc]
   congr 1
   exact Option.some.inj (by rw [← hqk];simp)
  refine we_star (thK (pt,t)::arr pb 0 [trv,cutv]::vec 1 cutv ((cutTo q k).map cI)::vec 1 ov (os.map (·.1))::all (os.map ansK)::all ((q.drop (k+1)).map thK)::vec 1 (.slice (some ⟨qb,qo,none⟩) q.length qc) (q.map ptrK)::F2) (fun h hs=>?_) ?_
  ·rw [hdrop] at hs
   have s1:Star (all (thK (pt,t)::(q.drop (k+1)).map thK)::arr pb 0 [trv,cutv]::vec 1 cutv ((cutTo q k).map cI)::vec 1 ov (os.map (·.1))::all (os.map ansK)::vec 1 (.slice (some ⟨qb,qo,none⟩) q.length qc) (q.map ptrK)::F2) h:=by
    refine Ent.star ?_ hs
    exact (.take (.there (.there (.there (.there .here)))) .refl)
   have s2:=star_pick (i:=0) (c:=thK (pt,t)) rfl s1
   refine Ent.star ?_ s2
   exact (.take .here (.take (.there .here) (.take (.there .here) (.take (.there .here) (.take (.there .here) .refl)))))
  refine we_ex .here fun y=>we_and .here fun e1=>we_and .here fun hr=>we_open .here ?_
  obtain ⟨av,al⟩:=y
  dsimp only at e1
  refine we_pure (of_has (.there .here) (vec_shape (by omega))) ?_
  rintro ⟨aa,an,ac,hav,_⟩
  dsimp only at hav
  subst hav
  refine we_pure (of_has (.there (.there (.there (.there .here)))) (vec_shape (by omega))) ?_
  rintro ⟨ca,cn,cc,hcv,hcn,_⟩
  subst hcv
  have hcnn:cn=(cutTo q k).length:=by simpa using hcn.symm
  have hcl:(cutTo q k).length≤k:=by unfold cutTo;exact Nat.le_trans (List.length_filter_le _ _) (by simp)
  subst hcnn
  refine we_pure (of_has (.there (.there (.there (.there (.there .here))))) (vec_shape (by omega))) ?_
  rintro ⟨oa,on,oc,hov,hon,_⟩
  subst hov
  have honn:on=os.length:=by simpa using hon.symm
  subst honn
  obtain ⟨LL,hLL⟩:∃ LL,LL=vec 2 (.slice aa an ac) (al.map ansV).flatten::all (al.map ansT)::vec 1 (.slice oa os.length oc) (os.map (·.1))::all (os.map ansK)::all ((q.drop (k+1)).map thK)::vec 1 (.slice (some ⟨qb,qo,none⟩) q.length qc) (q.map ptrK)::F2:=⟨_,rfl⟩
  refine we_star (arr pb 0 [trv,.slice ca (cutTo q k).length cc]::vec 1 (.slice ca (cutTo q k).length cc) ((cutTo q k).map cI)::arr pt.tb 0 (thCells pt.cv t (.slice aa an ac))::LL) (fun h hs=>?_) ?_
  ·rw [hLL]
   refine Ent.star ?_ hs
   exact (.take (.there (.there (.there .here))) (.take (.there (.there (.there .here))) .refl))
  have hptr:∀ d1 d2 d3:HProp,Rd (d1::d2::d3::LL) qb (qo+k) (.pointer (some ⟨pt.tb,0,none⟩)):=fun d1 d2 d3=>by rw [hLL];exact rd_vec (.there (.there (.there (.there (.there (.there (.there (.there .here)))))))) (by rw [List.getElem?_map,hqk];rfl)
  have hover:∀ d1 d2:HProp,Rd (d1::d2::arr pt.tb 0 (thCells pt.cv t (.slice aa an ac))::LL) pt.tb 28 (.bool t.over):=fun d1 d2=>.there (.there (Rd.row0 rfl))
  have hansv:∀ d1 d2:HProp,Rd (d1::d2::arr pt.tb 0 (thCells pt.cv t (.slice aa an ac))::LL) pt.tb 27 (.slice aa an ac):=fun d1 d2=>.there (.there (Rd.row0 rfl))
  repeat (first | refine wlssT ?_ | refine we_seq ?_ | (refine wR ?_;try simp only [oS]) | refine wo_nil ?_ | refine wM ?_ | refine wE ?_ | refine wT ?_ | refine we_skip ?_)
  refine we_block ?_
  refine we_seq ?_
  refine we_join (outMid b6 b8 wb pb (.slice (some ⟨qb,qo,none⟩) q.length qc) trv (.slice oa os.length oc) q k x (arr pt.tb 0 (thCells pt.cv t (.slice aa an ac))::LL)) ?_ ?_
  ·have hcs:=cut_succ hqk
   cases hto:t.over with
   | true =>
    rw [hto] at hover
    rw [if_pos hto] at hcs
    repeat (first | (apply wo_po;apply mo_index1;exact rfl;exact rfl;omega;exact trivial) | (apply wo_po;apply mo_load;exact rfl;exact hptr _ _ _;exact trivial) | (apply wo_po;apply mo_load;exact rfl;exact hover _ _;exact trivial) | refine we_seq ?_ | (refine wR ?_;try simp only [oS]) | refine wo_nil ?_ | refine wM ?_ | refine wN ?_ | refine wD ?_ | (apply wo_po;apply mo_not;exact rfl;exact gY) | refine wF ?_ | refine we_skip ?_)
    refine at_mid (I:=outMid b6 b8 wb pb (.slice (some ⟨qb,qo,none⟩) q.length qc) trv (.slice oa os.length oc) q k x (arr pt.tb 0 (thCells pt.cv t (.slice aa an ac))::LL)) (.slice ca (cutTo q k).length cc) trivial ⟨rfl,rfl,rfl,rfl,rfl,rfl,rfl,trivial⟩ (ent_eq ?_) rfl
    dsimp only [outMid]
    rw [hcs]
   | false =>
    rw [hto] at hover
    rw [if_neg (by simp [hto])] at hcs
    repeat (first | (apply wo_po;apply mo_index1;exact rfl;exact rfl;omega;exact trivial) | (apply wo_po;apply mo_load;exact rfl;exact hptr _ _ _;exact trivial) | (apply wo_po;apply mo_load;exact rfl;exact hover _ _;exact trivial) | (apply wo_mo;apply mo_buildSlice (sz:=1) (vs:=[cI k]);exact rfl;exact .cons rfl .nil;exact rfl;(intro v hv;cases (List.mem_singleton.1 hv);exact rfl);omega;exact trivial) | refine we_seq ?_ | (refine wR ?_;try simp only [oS]) | refine wo_nil ?_ | refine wM ?_ | refine wN ?_ | refine wD ?_ | (apply wo_po;apply mo_not;exact rfl;exact gY) | refine wL ?_ | refine wT ?_)
    rintro v' L' ⟨sb,rfl,rfl⟩
    repeat (first | (apply wo_mo;apply mo_append (sz:=1) (new:=[cI k]);exact rfl;exact rfl;exact rfl;exact rfl;exact (.there (.there .here));exact rfl;exact .inr ⟨_,_,rfl,Rds.all .here⟩;(intro v hv;cases (List.mem_singleton.1 hv);exact rfl);(simp only [sliceLen];omega);exact trivial))
    rintro v' L' rfl
    refine wo_pure (of_has .here (vec_shape (by omega))) ?_
    rintro ⟨ua,un,uc,rfl,_⟩
    repeat (first | refine wS ?_ | refine wo_nil ?_ | refine wD ?_)
    refine at_mid (I:=outMid b6 b8 wb pb (.slice (some ⟨qb,qo,none⟩) q.length qc) trv (.slice oa os.length oc) q k x (arr pt.tb 0 (thCells pt.cv t (.slice aa an ac))::LL)) (.slice ua un uc) trivial ⟨rfl,rfl,rfl,rfl,rfl,rfl,rfl,trivial⟩ ?_ rfl
    dsimp only [outMid]
    rw [hcs,show (cutTo q k++[k]).map cI=(cutTo q k).map cI++[cI k] by simp]
    exact (.take (.there (.there .here)) (.take .here (.drop .refl)))
  ·intro cutv2 _
   dsimp only [outMid]
   repeat (first | (apply wo_po;apply mo_index1;exact rfl;exact rfl;omega;exact trivial) | (apply wo_po;apply mo_load;exact rfl;exact hptr _ _ _;exact trivial) | (apply wo_po;apply mo_load;exact rfl;exact hansv _ _;exact trivial) | (apply wo_mo;apply mo_buildSlice (sz:=1) (vs:=[.slice aa an ac]);exact rfl;exact .cons rfl .nil;exact rfl;(intro v hv;cases (List.mem_singleton.1 hv);exact rfl);omega;exact trivial) | (refine wR ?_;try simp only [oS]) | refine wM ?_ | refine wN ?_ | refine wD ?_)
   rintro v' L' ⟨sb,rfl,rfl⟩
   refine wo_ent (arr sb 0 [.slice aa an ac]::arr pb 0 [trv,cutv2]::vec 1 cutv2 ((cutTo q (k+1)).map cI)::arr pt.tb 0 (thCells pt.cv t (.slice aa an ac))::vec 2 (.slice aa an ac) (al.map ansV).flatten::all (al.map ansT)::vec 1 (.slice oa os.length oc) (os.map (·.1))::all (os.map ansK)::all ((q.drop (k+1)).map thK)::vec 1 (.slice (some ⟨qb,qo,none⟩) q.length qc) (q.map ptrK)::F2) (ent_eq (by rw [hLL];rfl)) ?_
   repeat (first | (apply wo_mo;apply mo_append (sz:=1) (new:=[.slice aa an ac]);exact rfl;exact rfl;exact rfl;exact rfl;exact (.there (.there (.there (.there (.there (.there .here))))));exact rfl;exact .inr ⟨_,_,rfl,Rds.all .here⟩;(intro v hv;cases (List.mem_singleton.1 hv);exact rfl);(simp only [sliceLen];omega);exact trivial))
   rintro v' L' rfl
   repeat (first | (refine wR ?_;try simp only [oS]) | refine wo_nil ?_ | refine wM ?_ | refine wA ?_ | refine wadd ?_)
   refine at_roundS (I:=outInv b6 b8 wb pb (.slice (some ⟨qb,qo,none⟩) q.length qc) trv q x F2) (R:=fun i'=>q.length-i'.1<q.length-k) (k+1,v',cutv2,os++[(.slice aa an ac,t.ans)]) (by simp only;omega) ⟨by simp only;omega,?_⟩ ⟨rfl,rfl,rfl,rfl,rfl,rfl,rfl,trivial⟩ (fun h hs=>?_) rfl
   ·simp only [List.map_append,List.map_cons,List.map_nil,hos]
    rw [List.take_add_one,hqk,List.map_append];rfl
   ·dsimp only [outInv]
    rw [List.map_append,List.map_append]
    have s1:Star (vec 2 (.slice aa an ac) (al.map ansV).flatten::all (al.map ansT)::all (os.map ansK)::arr pb 0 [trv,cutv2]::vec 1 cutv2 ((cutTo q (k+1)).map cI)::vec 1 v' (os.map (·.1)++[.slice aa an ac])::all ((q.drop (k+1)).map thK)::vec 1 (.slice (some ⟨qb,qo,none⟩) q.length qc) (q.map ptrK)::F2) h:=by
     refine Ent.star ?_ hs
     exact (.take (.there (.there (.there (.there (.there .here))))) (.take (.there (.there (.there (.there (.there .here))))) (.take (.there (.there (.there (.there (.there .here))))) (.take (.there (.there .here)) (.take (.there (.there .here)) (.take .here (.take (.there (.there .here)) (.take (.there (.there .here)) (.drop (.drop .refl))))))))))
    have s2:Star (ansK (.slice aa an ac,t.ans)::all (os.map ansK)::_) h:=star_map (star_shut (M:=[_,_]) s1) (fun _ z=>⟨al,e1,z⟩) (fun _ z=>z)
    have s3:=star_push s2
    refine Ent.star ?_ s3
    exact (.take (.there .here) (.take (.there .here) (.take (.there .here) (.take .here .refl))))
 ·have hk2:k=q.length:=by omega
  subst hk2
  rw [List.take_length] at hos
  repeat (first | refine wlssF ?_ | refine we_seq ?_ | (refine wR ?_;try simp only [oS]) | refine wo_nil ?_ | refine wM ?_ | refine wE ?_ | refine wF ?_ | refine we_exit ?_)
  subst hF2
  refine we_pure (of_has (.there (.there (.there (.there (.there (.there .here)))))) (vec_shape (by omega))) ?_
  rintro ⟨ra,rn,rc,rfl,_⟩
  refine we_pure (of_has (.there .here) (vec_shape (by omega))) ?_
  rintro ⟨ca,cn,cc,rfl,_⟩
  refine we_wd (wb:=wb) (w:=st.w) (.there (.there (.there (.there (.there (.there (.there .here))))))) fun wv lv=>?_
  refine we_pure (of_has (.there .here) wv_shape) ?_
  rintro ⟨⟨wa,wn,wc,rfl⟩,la,ln,lc,rfl⟩
  obtain ⟨F3,hF3⟩:∃ F3,F3=wvC (.slice wa wn wc) (.slice la ln lc) st.w::vec 1 (.slice ca cn cc) ((cutTo q q.length).map cI)::vec 1 ov (os.map (·.1))::all (os.map ansK)::vec 3 (.slice ra rn rc) (st.tr.map trC).flatten::F:=⟨_,rfl⟩
  refine we_star (arr wb 0 [.slice wa wn wc,.slice la ln lc]::arr pb 0 [.slice ra rn rc,.slice ca cn cc]::arr b6 0 [.slice none 0 0,.slice none 0 0]::arr b8 0 [.slice none 0 0,.slice none 0 0]::F3) (fun h hs=>?_) ?_
  ·rw [hF3]
   refine Ent.star ?_ hs
   exact (.take .here (.take (.there .here) (.take (.there (.there (.there (.there (.there (.there (.there .here))))))) (.take (.there (.there (.there (.there (.there (.there (.there .here))))))) (.take .here (.take .here (.take .here (.take .here (.take (.there (.there .here)) (.drop (.drop .refl)))))))))))
  have hrp:∀ {F3:List HProp},Rds (arr wb 0 [.slice wa wn wc,.slice la ln lc]::arr pb 0 [.slice ra rn rc,.slice ca cn cc]::F3) pb 0 [.slice ra rn rc,.slice ca cn cc]:=fun {F3}=>Rds.all (.there .here)
  have hrw:∀ {F3:List HProp},Rds (arr wb 0 [.slice wa wn wc,.slice la ln lc]::F3) wb 0 [.slice wa wn wc,.slice la ln lc]:=fun {F3}=>Rds.all .here
  refine we_draw (List.range' 0 6) (by kernel_rfl) ?_
  repeat (first | (apply ap_read;exact rfl;exact rfl;exact trivial;apply mo_loadA (vs:=[.slice ra rn rc,.slice ca cn cc]);exact rfl;exact rfl;exact hrp) | (apply ap_read;exact rfl;exact rfl;exact trivial;apply mo_loadA (vs:=[.slice wa wn wc,.slice la ln lc]);exact rfl;exact rfl;exact hrw) | refine aM ?_)
  refine ap_loudR rfl rfl rfl rfl trivial (mo_storeA (c:=0) (k:=0) (a:=0) (vs:=[.slice none 0 0,.slice none 0 0]) rfl rfl rfl (by intro w hw;simp [Value.cells] at hw;rcases hw with rfl | rfl <;> rfl) rfl (Nat.le_refl 2) (.there (.there .here))) ?_ ?_
  ·rintro v L' ⟨rfl,rfl⟩ p hp
   replace hp:=(List.mem_filter.1 hp).1
   simp only [List.mem_cons,List.not_mem_nil,or_false] at hp
   rcases hp with rfl | rfl | rfl <;> first | exact .inl rfl | exact .inr ⟨_,rfl,trivial,mo_loadA (vs:=[.slice wa wn wc,.slice la ln lc]) rfl rfl hrw⟩ | exact .inr ⟨_,rfl,trivial,mo_loadA (vs:=[.slice ra rn rc,.slice ca cn cc]) rfl rfl hrp⟩
  rintro v' L' ⟨rfl,rfl⟩
  repeat (first | refine aA ?_)
  refine ap_loud rfl rfl rfl rfl rfl trivial (mo_storeA (c:=0) (k:=0) (a:=0) (vs:=[.slice none 0 0,.slice none 0 0]) rfl rfl rfl (by intro w hw;simp [Value.cells] at hw;rcases hw with rfl | rfl <;> rfl) rfl (Nat.le_refl 2) (.there (.there (.there .here)))) ?_
  rintro v' L' ⟨rfl,rfl⟩
  refine ap_end ?_
  repeat (first | refine we_ret ?_)
  refine at_leaveM (rs:=[.cell 6 91,.tmp 7,.cell 8 32]) Try.func31 Try.results31 hQ (.inl rfl) (.cons (.cell (vs:=[.slice ra rn rc,.slice ca cn cc]) rfl rfl (Rds.all (.there (.there .here)))) (.cons (.tmp rfl) (.cons (.cell (vs:=[.slice wa wn wc,.slice la ln lc]) rfl rfl (Rds.all (.there (.there (.there .here))))) .nil))) ?_
  refine ⟨.slice ra rn rc,.slice ca cn cc,ov,.slice wa wn wc,.slice la ln lc,os,rfl,rfl,?_,fun h hs=>?_⟩
  ·rw [hos,← hl,List.map_map];rfl
  ·have hcut:cutTo q q.length=st.cut:=by
    unfold cutTo Mach.St.cut
    rw [← hl,List.length_map]
    congr 1
    funext j
    rw [List.getElem?_map]
    cases q[j]? <;> rfl
   rw [hF3,hcut] at hs
   refine Ent.star ?_ hs
   exact (.take (.there (.there (.there (.there (.there (.there (.there (.there .here)))))))) (.take (.there (.there (.there (.there (.there .here))))) (.take (.there (.there (.there (.there (.there .here))))) (.take (.there (.there (.there (.there (.there .here))))) (.take (.there (.there (.there (.there .here)))) (.drop (.drop (.drop (.drop .refl)))))))))
end Go.Proofs.Ytmkkanmkjfnpdaa
