/-
  Part 7 of 9.
-/
import Derived.Test.YtnnpdmhmpgmpnaaGp6
import Derived.Test.YtnnpdmhmpgmpnaaGp2
import Derived.Test.YtnnpdmhmpgmpnaaGp3
import Derived.Test.YtnnpdmhmpgmpnaaGp4
import Derived.Test.YtnnpdmhmpgmpnaaGp5
set_option linter.unusedVariables false
set_option linter.unusedSimpArgs false
namespace Go.Proofs.Ytnnpdmhmpgmpnaa
open Go Go.PB
attribute [local irreducible] Mo Bin Eql Tr Wo Ap Wle
section
section
variable {B:Hand} [Lets B] {L F:List HProp} {x:B.X} {limit now fails wait:Nat}
theorem bvj:Tr Try.prog B 37 [] L x fun w L' x'=>∃ wv lv,w=.agg #[wv,lv]∧L'=wvC wv lv ⟨[[0,0],[0]],2⟩::L∧x'=x:=by
 refine Tr.post (R:=fun v L' x'=>∃ wv lv,v=.agg #[wv,lv]∧x'=x∧∀ h,Star L' h→Star (wvC wv lv ⟨[[0,0],[0]],2⟩::L) h) ?_
  (by rintro v L' x' ⟨wv,lv,rfl,rfl,hs⟩;exact ⟨_,⟨wv,lv,rfl,rfl,rfl⟩,hs⟩)
 refine bd_ Try.func37 rfl Try.ntmps37 (by simp) fun um Q _ hQ=>?_
 simp only [argE,Nat.zero_add,Nat.reduceAdd]
 repeat (first | (apply wo_mo;apply ck_;exact trivial) | refine bb_ ?_ | (refine wR ?_;try simp only [oS]))
 rintro v' L' ⟨cb,rfl,rfl⟩
 repeat (first | (apply wo_mo;apply bi_ (sz:=1) (vs:=[Go.PB.num 0,Go.PB.num 0]);exact rfl;(repeat (first | exact EvL.nil | apply EvL.cons rfl));exact rfl;(repeat (first | exact List.forall_mem_nil _ | refine List.forall_mem_cons.2 ⟨rfl,?_⟩));omega;exact trivial) | refine bb_ ?_ | (refine wR ?_;try simp only [oS]) | refine ba_ ?_)
 rintro v' L' ⟨qb,rfl,rfl⟩
 repeat (first | (apply wo_mo;apply bi_ (sz:=1) (vs:=[Go.PB.num 0]);exact rfl;(repeat (first | exact EvL.nil | apply EvL.cons rfl));exact rfl;(repeat (first | exact List.forall_mem_nil _ | refine List.forall_mem_cons.2 ⟨rfl,?_⟩));omega;exact trivial))
 rintro v' L' ⟨q1,rfl,rfl⟩
 repeat (first | (apply wo_mo;apply bi_ (sz:=1) (vs:=[.slice (some ⟨qb,0,none⟩) 2 2,.slice (some ⟨q1,0,none⟩) 1 1]);exact rfl;(repeat (first | exact EvL.nil | apply EvL.cons rfl));exact rfl;(repeat (first | exact List.forall_mem_nil _ | refine List.forall_mem_cons.2 ⟨rfl,?_⟩));omega;exact trivial))
 rintro v' L' ⟨rb,rfl,rfl⟩
 repeat (first | (apply wo_mo;apply bi_ (sz:=1) (vs:=[.slice none 0 0,.slice none 0 0]);exact rfl;(repeat (first | exact EvL.nil | apply EvL.cons rfl));exact rfl;(repeat (first | exact List.forall_mem_nil _ | refine List.forall_mem_cons.2 ⟨rfl,?_⟩));omega;exact trivial))
 rintro v' L' ⟨lb,rfl,rfl⟩
 repeat (first | (apply wo_po;apply ce_;(repeat (first | exact EvL.nil | apply EvL.cons rfl));exact rfl;exact trivial) | (apply wo_pm;apply bw_ (b:=cb) (c:=0) (k:=0) (a:=0) (vs:=[.slice none 0 0,.slice none 0 0]);exact rfl;exact rfl;exact rfl;(intro w hw;simp [Value.cells] at hw;rcases hw with rfl | rfl <;> rfl);exact rfl;exact Nat.le_refl 2;exact (.there (.there (.there (.there .here))));exact trivial) | refine ba_ ?_ | refine bn_ ?_)
 refine cp_ (rs:=[.cell 0 112]) Try.func37 Try.results37 hQ (.inl rfl) (.cons (.cell (vs:=[.slice (some ⟨rb,0,none⟩) 2 2,.slice (some ⟨lb,0,none⟩) 2 2]) rfl rfl (Rds.all (.there (.there (.there (.there .here)))))) .nil) ?_
 refine ⟨_,_,rfl,rfl,fun h st=>?_⟩
 have s1:Star (arr lb 0 [.slice none 0 0,.slice none 0 0]::arr rb 0 [.slice (some ⟨qb,0,none⟩) 2 2,.slice (some ⟨q1,0,none⟩) 1 1]::arr q1 0 [Go.PB.num 0]::arr qb 0 [Go.PB.num 0,Go.PB.num 0]::L) h:=Ent.star (.take .here (.take .here (.take .here (.take .here (.drop .refl))))) st
 refine bcn (wl:=[(.slice (some ⟨qb,0,none⟩) 2 2,[0,0]),(.slice (some ⟨q1,0,none⟩) 1 1,[0])]) (lw:=[.slice none 0 0,.slice none 0 0]) rfl ?_ rfl ?_
 ·refine ⟨by show 2<1000000;omega,by show 2<1000000;omega,fun l hl=>?_,fun l hl v hv=>?_⟩
  ·simp only [List.mem_cons,List.not_mem_nil,or_false] at hl
   rcases hl with rfl | rfl
   ·show 2<1000000;omega
   ·show 1<1000000;omega
  ·simp only [List.mem_cons,List.not_mem_nil,or_false] at hl
   rcases hl with rfl | rfl
   ·simp at hv;omega
   ·simp at hv;omega
 ·refine bm_ (gu_ (n:=2) (sz:=1) rfl s1) (fun _ y=>y) fun _ y=>?_
  refine bv_ (M:=[_,_]) (dp_ (dp_ ?_))
  refine bm_ (gu_ (n:=2) (sz:=1) rfl y) (fun _ y=>y) fun _ z=>?_
  refine bv_ (M:=[_,_]) ?_
  exact gu_ (n:=2) (sz:=1) rfl (cx_ (gu_ (n:=1) (sz:=1) rfl z))
theorem bwd:Tr Try.prog B 62 [.int .u64 (limit:Nat)] L x fun w L' x'=>∃ a c,w=.agg #[.slice a 16 c,.slice none 0 0]∧L'=clC (.slice a 16 c) (.slice none 0 0) (Mach.genterCl limit)::L∧x'=x:=by
 refine Tr.post (R:=fun v L' x'=>∃ a c,v=.agg #[.slice a 16 c,.slice none 0 0]∧x'=x∧∀ h,Star L' h→Star (clC (.slice a 16 c) (.slice none 0 0) (Mach.genterCl limit)::L) h) ?_
  (by rintro v L' x' ⟨a,c,rfl,rfl,hs⟩;exact ⟨_,⟨a,c,rfl,rfl,rfl⟩,hs⟩)
 refine bd_ Try.func62 rfl Try.ntmps62 (by simp) fun um Q _ hQ=>?_
 simp only [argE,Nat.zero_add,Nat.reduceAdd]
 repeat (first | (apply wo_mo;apply ck_;exact trivial) | refine bb_ ?_ | (refine wR ?_;try simp only [oS]))
 rintro v' L' ⟨cb,rfl,rfl⟩
 repeat (first | (apply wo_po;apply ce_;(repeat (first | exact EvL.nil | apply EvL.cons rfl));exact rfl;exact trivial) | (apply wo_mo;apply bi_ (sz:=7);exact rfl;(repeat (first | exact EvL.nil | apply EvL.cons rfl));exact rfl;(repeat (first | exact List.forall_mem_nil _ | refine List.forall_mem_cons.2 ⟨rfl,?_⟩));omega;exact trivial) | refine bb_ ?_ | (refine wR ?_;try simp only [oS]) | refine ba_ ?_ | refine wM ?_)
 rintro v' L' ⟨kb,rfl,rfl⟩
 repeat (first | (apply wo_po;apply ce_;(repeat (first | exact EvL.nil | apply EvL.cons rfl));exact rfl;exact trivial) | (apply wo_pm;apply bw_ (b:=cb) (c:=0) (k:=0) (a:=0) (vs:=[.slice none 0 0,.slice none 0 0]);exact rfl;exact rfl;exact rfl;(intro w hw;simp [Value.cells] at hw;rcases hw with rfl | rfl <;> rfl);exact rfl;exact Nat.le_refl 2;exact (.there .here);exact trivial) | refine ba_ ?_ | refine bn_ ?_)
 refine cp_ (rs:=[.cell 2 103]) Try.func62 Try.results62 hQ (.inl rfl) (.cons (.cell (vs:=[.slice (some ⟨kb,0,none⟩) 16 16,.slice none 0 0]) rfl rfl (Rds.all (.there .here))) .nil) ?_
 exact ⟨_,_,rfl,rfl,fun h st=>bpq (cl:=(Mach.genterCl limit)) rfl rfl rfl (Ent.star (.take .here (.drop .refl)) st)⟩
theorem bvz:Tr Try.prog B 63 [] L x fun w L' x'=>∃ a c,w=.agg #[.slice a 10 c,.slice none 0 0]∧L'=clC (.slice a 10 c) (.slice none 0 0) Mach.gleaveCl::L∧x'=x:=by
 refine Tr.post (R:=fun v L' x'=>∃ a c,v=.agg #[.slice a 10 c,.slice none 0 0]∧x'=x∧∀ h,Star L' h→Star (clC (.slice a 10 c) (.slice none 0 0) Mach.gleaveCl::L) h) ?_
  (by rintro v L' x' ⟨a,c,rfl,rfl,hs⟩;exact ⟨_,⟨a,c,rfl,rfl,rfl⟩,hs⟩)
 refine bd_ Try.func63 rfl Try.ntmps63 (by simp) fun um Q _ hQ=>?_
 simp only [argE,Nat.zero_add,Nat.reduceAdd]
 repeat (first | (apply wo_mo;apply ck_;exact trivial) | refine bb_ ?_ | (refine wR ?_;try simp only [oS]))
 rintro v' L' ⟨cb,rfl,rfl⟩
 repeat (first | (apply wo_po;apply ce_;(repeat (first | exact EvL.nil | apply EvL.cons rfl));exact rfl;exact trivial) | (apply wo_mo;apply bi_ (sz:=7);exact rfl;(repeat (first | exact EvL.nil | apply EvL.cons rfl));exact rfl;(repeat (first | exact List.forall_mem_nil _ | refine List.forall_mem_cons.2 ⟨rfl,?_⟩));omega;exact trivial) | refine bb_ ?_ | (refine wR ?_;try simp only [oS]) | refine ba_ ?_)
 rintro v' L' ⟨kb,rfl,rfl⟩
 repeat (first | (apply wo_po;apply ce_;(repeat (first | exact EvL.nil | apply EvL.cons rfl));exact rfl;exact trivial) | (apply wo_pm;apply bw_ (b:=cb) (c:=0) (k:=0) (a:=0) (vs:=[.slice none 0 0,.slice none 0 0]);exact rfl;exact rfl;exact rfl;(intro w hw;simp [Value.cells] at hw;rcases hw with rfl | rfl <;> rfl);exact rfl;exact Nat.le_refl 2;exact (.there .here);exact trivial) | refine ba_ ?_ | refine bn_ ?_)
 refine cp_ (rs:=[.cell 0 103]) Try.func63 Try.results63 hQ (.inl rfl) (.cons (.cell (vs:=[.slice (some ⟨kb,0,none⟩) 10 10,.slice none 0 0]) rfl rfl (Rds.all (.there .here))) .nil) ?_
 exact ⟨_,_,rfl,rfl,fun h st=>bpq (cl:=Mach.gleaveCl) rfl rfl rfl (Ent.star (.take .here (.drop .refl)) st)⟩
theorem cjh:Tr Try.prog B 68 [] L x fun w L' x'=>∃ a c,w=.agg #[.slice a 4 c,.slice none 0 0]∧L'=clC (.slice a 4 c) (.slice none 0 0) Mach.ggetCl::L∧x'=x:=by
 refine Tr.post (R:=fun v L' x'=>∃ a c,v=.agg #[.slice a 4 c,.slice none 0 0]∧x'=x∧∀ h,Star L' h→Star (clC (.slice a 4 c) (.slice none 0 0) Mach.ggetCl::L) h) ?_
  (by rintro v L' x' ⟨a,c,rfl,rfl,hs⟩;exact ⟨_,⟨a,c,rfl,rfl,rfl⟩,hs⟩)
 refine bd_ Try.func68 rfl Try.ntmps68 (by simp) fun um Q _ hQ=>?_
 simp only [argE,Nat.zero_add,Nat.reduceAdd]
 repeat (first | (apply wo_mo;apply ck_;exact trivial) | refine bb_ ?_ | (refine wR ?_;try simp only [oS]))
 rintro v' L' ⟨cb,rfl,rfl⟩
 repeat (first | (apply wo_po;apply ce_;(repeat (first | exact EvL.nil | apply EvL.cons rfl));exact rfl;exact trivial) | (apply wo_mo;apply bi_ (sz:=7);exact rfl;(repeat (first | exact EvL.nil | apply EvL.cons rfl));exact rfl;(repeat (first | exact List.forall_mem_nil _ | refine List.forall_mem_cons.2 ⟨rfl,?_⟩));omega;exact trivial) | refine bb_ ?_ | (refine wR ?_;try simp only [oS]) | refine ba_ ?_)
 rintro v' L' ⟨kb,rfl,rfl⟩
 repeat (first | (apply wo_po;apply ce_;(repeat (first | exact EvL.nil | apply EvL.cons rfl));exact rfl;exact trivial) | (apply wo_pm;apply bw_ (b:=cb) (c:=0) (k:=0) (a:=0) (vs:=[.slice none 0 0,.slice none 0 0]);exact rfl;exact rfl;exact rfl;(intro w hw;simp [Value.cells] at hw;rcases hw with rfl | rfl <;> rfl);exact rfl;exact Nat.le_refl 2;exact (.there .here);exact trivial) | refine ba_ ?_ | refine bn_ ?_)
 refine cp_ (rs:=[.cell 0 103]) Try.func68 Try.results68 hQ (.inl rfl) (.cons (.cell (vs:=[.slice (some ⟨kb,0,none⟩) 4 4,.slice none 0 0]) rfl rfl (Rds.all (.there .here))) .nil) ?_
 exact ⟨_,_,rfl,rfl,fun h st=>bpq (cl:=Mach.ggetCl) rfl rfl rfl (Ent.star (.take .here (.drop .refl)) st)⟩
def bpg:List Mach.In:=[⟨14,0,2,1,0,0,62⟩,⟨15,0,2,2,0,0,62⟩,⟨14,0,3,1,0,0,41⟩,⟨15,0,3,3,0,0,43⟩,⟨15,0,4,1,0,0,23⟩]
def gBeg:List Mach.In:=[⟨17,0,5,0,0,0,0⟩,⟨17,0,6,0,0,0,1⟩,⟨17,0,7,0,0,0,2⟩,⟨6,0,8,0,0,0,1⟩,⟨6,0,9,0,0,0,2⟩,⟨1,1,1,0,0,0,0⟩,⟨14,0,2,1,0,0,62⟩,⟨15,0,2,2,0,0,62⟩,⟨14,0,3,1,0,0,41⟩,⟨15,0,3,3,0,0,43⟩,⟨15,0,4,1,0,0,23⟩]
def gBec (st fl si:Nat):List Mach.In:=[⟨14,0,12,si,0,0,23⟩,⟨14,0,13,fl,0,0,2⟩,⟨13,0,10,12,13,0,0⟩,⟨13,0,10,10,st,0,0⟩,⟨5,1,11,0,1,10,0⟩,⟨19,0,11,0,0,0,5⟩]
theorem bbw:Tr Try.prog B 98 [] L x fun v L' x'=>∃ kb,v=.slice (some ⟨kb,0,none⟩) 5 5∧L'=arr kb 0 (bpg.map inC).flatten::L∧x'=x:=by
 refine bd_ Try.func98 rfl Try.ntmps98 (by simp) fun um Q _ hQ=>?_
 simp only [argE,Nat.zero_add,Nat.reduceAdd]
 repeat (first | (apply wo_po;apply ce_;(repeat (first | exact EvL.nil | apply EvL.cons rfl));exact rfl;exact trivial) | (apply wo_mo;apply bi_ (sz:=7);exact rfl;(repeat (first | exact EvL.nil | apply EvL.cons rfl));exact rfl;(repeat (first | exact List.forall_mem_nil _ | refine List.forall_mem_cons.2 ⟨rfl,?_⟩));omega;exact trivial) | refine bb_ ?_ | (refine wR ?_;try simp only [oS]) | refine ba_ ?_ | refine wA ?_)
 rintro v' L' ⟨kb,rfl,rfl⟩
 repeat (first | refine ba_ ?_ | refine wA ?_ | refine bn_ ?_)
 (first | refine or1 Try.func98 Try.results98 hQ rfl ?_ | refine on1 Try.func98 Try.results98 hQ rfl ?_)
 exact ⟨kb,rfl,rfl,rfl⟩
theorem vo_:Tr Try.prog B 96 [] L x fun v L' x'=>∃ a c,v=.slice a 11 c∧L'=vec 7 (.slice a 11 c) (gBeg.map inC).flatten::L∧x'=x:=by
 refine Tr.post (R:=fun v L' x'=>∃ a c,v=.slice a 11 c∧x'=x∧∀ h,Star L' h→Star (vec 7 (.slice a 11 c) (gBeg.map inC).flatten::L) h) ?_
  (by rintro v L' x' ⟨a,c,rfl,rfl,hs⟩;exact ⟨_,⟨a,c,rfl,rfl,rfl⟩,hs⟩)
 refine bd_ Try.func96 rfl Try.ntmps96 (by simp) fun um Q _ hQ=>?_
 simp only [argE,Nat.zero_add,Nat.reduceAdd]
 repeat (first | (apply wo_po;apply ce_;(repeat (first | exact EvL.nil | apply EvL.cons rfl));exact rfl;exact trivial) | (apply wo_mo;apply bi_ (sz:=7);exact rfl;(repeat (first | exact EvL.nil | apply EvL.cons rfl));exact rfl;(repeat (first | exact List.forall_mem_nil _ | refine List.forall_mem_cons.2 ⟨rfl,?_⟩));omega;exact trivial) | refine bb_ ?_ | (refine wR ?_;try simp only [oS]) | refine ba_ ?_ | refine wA ?_)
 rintro v' L' ⟨kb,rfl,rfl⟩
 refine cd_ (vec 7 (.slice (some ⟨kb,0,none⟩) 6 6) ((gBeg.take 6).map inC).flatten::L) (fun h st=>gu_ rfl st) ?_
 repeat (first | refine bb_ ?_ | (refine wR ?_;try simp only [oS]) | refine ba_ ?_ | refine wM ?_ | refine wA ?_)
 refine bo_ .nil trivial bbw ?_
 rintro v1 L1 x1 ⟨pb,rfl,rfl,rfl⟩
 repeat (first | (apply wo_mo;apply cf_ (sz:=7) (new:=((bpg:List Mach.In).map inC).flatten);exact rfl;exact rfl;exact rfl;exact rfl;exact (.there .here);exact rfl;exact .inr ⟨_,_,rfl,Rds.all .here⟩;exact fj_;(simp only [cj_];omega);exact trivial))
 rintro v' L' rfl
 refine cn_ (bp_ .here (bg_ (by omega))) ?_
 rintro ⟨a,n,c,rfl,hn,_⟩
 obtain rfl:n=11:=by have:=hn.symm.trans (show _=77 from rfl);omega
 repeat (first | refine ba_ ?_ | refine wA ?_ | refine bn_ ?_)
 (first | refine or1 Try.func96 Try.results96 hQ rfl ?_ | refine on1 Try.func96 Try.results96 hQ rfl ?_)
 refine ⟨a,c,rfl,rfl,fun h st=>?_⟩
 exact bm_ st (fun _ z=>z) fun _ z=>bs_ z
theorem jc_ {ka:Option Addr} {kn kc st fl si:Nat} {code:List Mach.In} (hl:kn≤100) (hh:Has L (vec 7 (.slice ka kn kc) (code.map inC).flatten) F) :
  Tr Try.prog B 97 [.slice ka kn kc,.int .i64 (st:Nat),.int .i64 (fl:Nat),.int .i64 (si:Nat)] L x fun v L' x'=>L'=vec 7 v ((code++gBec st fl si).map inC).flatten::F∧x'=x:=by
 refine Tr.post (R:=fun v L' x'=>x'=x∧∀ h,Star L' h→Star (vec 7 v ((code++gBec st fl si).map inC).flatten::F) h) ?_
  (by rintro v L' x' ⟨rfl,hs⟩;exact ⟨_,⟨rfl,rfl⟩,hs⟩)
 refine dw_ (vec 7 (.slice ka kn kc) (code.map inC).flatten::F) (fun h st=>hh.star st) ?_
 refine bd_ Try.func97 rfl Try.ntmps97 (by simp) fun um Q _ hQ=>?_
 simp only [argE,Nat.zero_add,Nat.reduceAdd]
 repeat (first | (apply wo_po;apply ce_;(repeat (first | exact EvL.nil | apply EvL.cons rfl));exact rfl;exact trivial) | (apply wo_mo;apply bi_ (sz:=7);exact rfl;(repeat (first | exact EvL.nil | apply EvL.cons rfl));exact rfl;(repeat (first | exact List.forall_mem_nil _ | refine List.forall_mem_cons.2 ⟨rfl,?_⟩));omega;exact trivial) | refine bb_ ?_ | (refine wR ?_;try simp only [oS]) | refine ba_ ?_ | refine wM ?_ | refine wA ?_)
 rintro v' L' ⟨kb,rfl,rfl⟩
 repeat (first | (apply wo_mo;apply cf_ (sz:=7) (new:=((gBec st fl si:List Mach.In).map inC).flatten);exact rfl;exact rfl;exact rfl;exact rfl;exact (.there .here);exact rfl;exact .inr ⟨_,_,rfl,Rds.all .here⟩;exact fj_;(simp only [cj_];omega);exact trivial))
 rintro v' L' rfl
 repeat (first | refine ba_ ?_ | refine wA ?_ | refine bn_ ?_)
 (first | refine or1 Try.func97 Try.results97 hQ rfl ?_ | refine on1 Try.func97 Try.results97 hQ rfl ?_)
 refine ⟨rfl,fun h st=>?_⟩
 rw [List.map_append,List.flatten_append]
 exact bm_ st (fun _ z=>z) fun _ z=>bs_ z
theorem bvn:Tr Try.prog B 67 [] L x fun w L' x'=>∃ a c,w=.agg #[.slice a 9 c,.slice none 0 0]∧L'=clC (.slice a 9 c) (.slice none 0 0) Mach.gstateCl::L∧x'=x:=by
 refine Tr.post (R:=fun v L' x'=>∃ a c,v=.agg #[.slice a 9 c,.slice none 0 0]∧x'=x∧∀ h,Star L' h→Star (clC (.slice a 9 c) (.slice none 0 0) Mach.gstateCl::L) h) ?_
  (by rintro v L' x' ⟨a,c,rfl,rfl,hs⟩;exact ⟨_,⟨a,c,rfl,rfl,rfl⟩,hs⟩)
 refine bd_ Try.func67 rfl Try.ntmps67 (by simp) fun um Q _ hQ=>?_
 simp only [argE,Nat.zero_add,Nat.reduceAdd]
 repeat (first | (apply wo_mo;apply ck_;exact trivial) | refine bb_ ?_ | (refine wR ?_;try simp only [oS]))
 rintro v' L' ⟨cb,rfl,rfl⟩
 repeat (first | (apply wo_po;apply ce_;(repeat (first | exact EvL.nil | apply EvL.cons rfl));exact rfl;exact trivial) | (apply wo_mo;apply bi_ (sz:=7);exact rfl;(repeat (first | exact EvL.nil | apply EvL.cons rfl));exact rfl;(repeat (first | exact List.forall_mem_nil _ | refine List.forall_mem_cons.2 ⟨rfl,?_⟩));omega;exact trivial) | refine bb_ ?_ | (refine wR ?_;try simp only [oS]) | refine ba_ ?_)
 rintro v' L' ⟨kb,rfl,rfl⟩
 refine cd_ (vec 7 (.slice (some ⟨kb,0,none⟩) 1 1) ((Mach.gstateCl.code.take 1).map inC).flatten::arr cb 0 [.slice none 0 0,.slice none 0 0]::L) (fun h st=>gu_ rfl st) ?_
 repeat (first | refine bb_ ?_ | (refine wR ?_;try simp only [oS]) | refine ba_ ?_ | refine wM ?_ | refine wA ?_)
 refine bo_ .nil trivial bbw ?_
 rintro v1 L1 x1 ⟨pb,rfl,rfl,rfl⟩
 repeat (first | (apply wo_mo;apply cf_ (sz:=7) (new:=((bpg:List Mach.In).map inC).flatten);exact rfl;exact rfl;exact rfl;exact rfl;exact (.there .here);exact rfl;exact .inr ⟨_,_,rfl,Rds.all .here⟩;exact fj_;(simp only [cj_];omega);exact trivial))
 rintro v' L' rfl
 refine cn_ (bp_ .here (bg_ (by omega))) ?_
 rintro ⟨a,n,c,rfl,hn,_⟩
 obtain rfl:n=6:=by have:=hn.symm.trans (show _=42 from rfl);omega
 repeat (first | (apply wo_po;apply ce_;(repeat (first | exact EvL.nil | apply EvL.cons rfl));exact rfl;exact trivial) | (apply wo_mo;apply bi_ (sz:=7);exact rfl;(repeat (first | exact EvL.nil | apply EvL.cons rfl));exact rfl;(repeat (first | exact List.forall_mem_nil _ | refine List.forall_mem_cons.2 ⟨rfl,?_⟩));omega;exact trivial) | refine bb_ ?_ | (refine wR ?_;try simp only [oS]) | refine ba_ ?_ | refine wM ?_ | refine wA ?_)
 rintro v' L' ⟨kb3,rfl,rfl⟩
 repeat (first | (apply wo_mo;apply cf_ (sz:=7) (new:=((Mach.gstateCl.code.drop 6:List Mach.In).map inC).flatten);exact rfl;exact rfl;exact rfl;exact rfl;exact (.there .here);exact rfl;exact .inr ⟨_,_,rfl,Rds.all .here⟩;exact fj_;(simp only [cj_];omega);exact trivial))
 rintro v' L' rfl
 refine cn_ (bp_ .here (bg_ (by omega))) ?_
 rintro ⟨a,n,c,rfl,hn,_⟩
 obtain rfl:n=9:=by have:=hn.symm.trans (show _=63 from rfl);omega
 repeat (first | (apply wo_po;apply ce_;(repeat (first | exact EvL.nil | apply EvL.cons rfl));exact rfl;exact trivial) | (apply wo_pm;apply bw_ (b:=cb) (c:=0) (k:=0) (a:=0) (vs:=[.slice none 0 0,.slice none 0 0]);exact rfl;exact rfl;exact rfl;(intro w hw;simp [Value.cells] at hw;rcases hw with rfl | rfl <;> rfl);exact rfl;exact Nat.le_refl 2;exact (.there (.there (.there .here)));exact trivial) | refine ba_ ?_ | refine bn_ ?_)
 refine cp_ (rs:=[.cell 0 103]) Try.func67 Try.results67 hQ (.inl rfl) (.cons (.cell (vs:=[.slice a 9 c,.slice none 0 0]) rfl rfl (Rds.all (.there (.there (.there .here))))) .nil) ?_
 refine ⟨_,_,rfl,rfl,fun h st=>cjv (cl:=Mach.gstateCl) rfl rfl ?_⟩
 exact bm_ st (fun _ z=>z) fun _ z=>bs_ (bs_ (bs_ z))
theorem yr_ {kv:Value} {cl:Mach.Cl} {cs:List Value} {db n1 n2 n3:Nat} (hc:cs=(cl.code.map inC).flatten) (hd:cl.data=[n1,n2,n3]) {h:Hp} (s:Star (vec 7 kv cs::arr db 0 [Go.PB.num n1,Go.PB.num n2,Go.PB.num n3]::L) h):Star (clC kv (.slice (some ⟨db,0,none⟩) 3 3) cl::L) h:=by
 subst hc
 refine bv_ (M:=[_,_]) ?_
 rw [hd]
 exact cx_ (gu_ (n:=3) (sz:=1) rfl (cx_ s))
set_option maxRecDepth 20000 in
set_option maxHeartbeats 2000000 in
theorem cjk:Tr Try.prog B 64 [.int .u64 (now:Nat),.int .u64 (fails:Nat),.int .u64 (wait:Nat)] L x fun w L' x'=>∃ a c db,w=.agg #[.slice a 23 c,.slice (some ⟨db,0,none⟩) 3 3]∧L'=clC (.slice a 23 c) (.slice (some ⟨db,0,none⟩) 3 3) (Mach.gaskCl now fails wait)::L∧x'=x:=by
 refine Tr.post (R:=fun v L' x'=>∃ a c db,v=.agg #[.slice a 23 c,.slice (some ⟨db,0,none⟩) 3 3]∧x'=x∧∀ h,Star L' h→Star (clC (.slice a 23 c) (.slice (some ⟨db,0,none⟩) 3 3) (Mach.gaskCl now fails wait)::L) h) ?_
  (by rintro v L' x' ⟨a,c,db,rfl,rfl,hs⟩;exact ⟨_,⟨a,c,db,rfl,rfl,rfl⟩,hs⟩)
 have cv:∀ n:Nat,n<1000→IntKind.u64.wrap ((n:Nat):Int)=((n:Nat):Int):=fun n hn=>wrap_u64 (by omega) (by omega)
 refine bd_ Try.func64 rfl Try.ntmps64 (by simp) fun um Q _ hQ=>?_
 simp only [argE,Nat.zero_add,Nat.reduceAdd]
 repeat (first | (apply wo_mo;apply ck_;exact trivial) | refine bb_ ?_ | (refine wR ?_;try simp only [oS]))
 rintro v' L' ⟨cb,rfl,rfl⟩
 repeat (first | refine bb_ ?_ | (refine wR ?_;try simp only [oS]) | refine ba_ ?_)
 refine bo_ .nil trivial vo_ ?_
 rintro v1 L1 x1 ⟨a,c,rfl,rfl,rfl⟩
 refine cd_ (vec 7 (.slice a 11 c) (([⟨17,0,5,0,0,0,0⟩,⟨17,0,6,0,0,0,1⟩,⟨17,0,7,0,0,0,2⟩,⟨6,0,8,0,0,0,1⟩,⟨6,0,9,0,0,0,2⟩,⟨1,1,1,0,0,0,0⟩,⟨14,0,2,1,0,0,62⟩,⟨15,0,2,2,0,0,62⟩,⟨14,0,3,1,0,0,41⟩,⟨15,0,3,3,0,0,43⟩,⟨15,0,4,1,0,0,23⟩]:List Mach.In).map inC).flatten::arr cb 0 [.slice none 0 0,.slice none 0 0]::L) (fun h st=>st) ?_
 repeat (first | (apply wo_po;apply ce_;(repeat (first | exact EvL.nil | apply EvL.cons rfl));exact rfl;exact trivial) | (apply wo_mo;apply bi_ (sz:=7);exact rfl;(repeat (first | exact EvL.nil | apply EvL.cons rfl));exact rfl;(repeat (first | exact List.forall_mem_nil _ | refine List.forall_mem_cons.2 ⟨rfl,?_⟩));omega;exact trivial) | refine bb_ ?_ | (refine wR ?_;try simp only [oS]) | refine ba_ ?_ | refine wM ?_ | refine wA ?_ | refine wE ?_)
 rintro v' L' ⟨kb,rfl,rfl⟩
 repeat (first | (apply wo_mo;apply cf_ (sz:=7) (new:=(([⟨19,0,2,0,0,0,0⟩,⟨8,0,12,4,7,0,0⟩]:List Mach.In).map inC).flatten);exact rfl;exact rfl;exact rfl;exact rfl;exact (.there .here);exact rfl;exact .inr ⟨_,_,rfl,Rds.all .here⟩;exact fj_;(simp only [cj_];omega);exact trivial))
 rintro v' L' rfl
 refine cn_ (bp_ .here (bg_ (by omega))) ?_
 rintro ⟨a,n,c,rfl,hn,_,hz,hy⟩
 obtain rfl:n=13:=by have:=hn.symm.trans (show _=91 from rfl);omega
 refine cd_ (vec 7 (.slice a 13 c) (([⟨17,0,5,0,0,0,0⟩,⟨17,0,6,0,0,0,1⟩,⟨17,0,7,0,0,0,2⟩,⟨6,0,8,0,0,0,1⟩,⟨6,0,9,0,0,0,2⟩,⟨1,1,1,0,0,0,0⟩,⟨14,0,2,1,0,0,62⟩,⟨15,0,2,2,0,0,62⟩,⟨14,0,3,1,0,0,41⟩,⟨15,0,3,3,0,0,43⟩,⟨15,0,4,1,0,0,23⟩,⟨19,0,2,0,0,0,0⟩,⟨8,0,12,4,7,0,0⟩]:List Mach.In).map inC).flatten::arr cb 0 [.slice none 0 0,.slice none 0 0]::L) (fun h st=>bm_ st (fun _ z=>z) fun _ z=>bs_ (z)) ?_
 repeat (first | (apply wo_po;apply ce_;(repeat (first | exact EvL.nil | apply EvL.cons rfl));exact rfl;exact trivial) | (apply wo_mo;apply bi_ (sz:=7);exact rfl;(repeat (first | exact EvL.nil | apply EvL.cons rfl));exact rfl;(repeat (first | exact List.forall_mem_nil _ | refine List.forall_mem_cons.2 ⟨rfl,?_⟩));omega;exact trivial) | refine bb_ ?_ | (refine wR ?_;try simp only [oS]) | refine ba_ ?_ | refine wM ?_ | refine wA ?_ | refine wE ?_)
 rintro v' L' ⟨kb,rfl,rfl⟩
 repeat (first | (apply wo_mo;apply cf_ (sz:=7) (new:=(([⟨20,0,5,12,0,0,0⟩]:List Mach.In).map inC).flatten);exact rfl;exact rfl;exact rfl;exact rfl;exact (.there .here);exact rfl;exact .inr ⟨_,_,rfl,Rds.all .here⟩;exact fj_;(simp only [cj_];omega);exact trivial))
 rintro v' L' rfl
 refine cn_ (bp_ .here (bg_ (by omega))) ?_
 rintro ⟨a,n,c,rfl,hn,_,hz,hy⟩
 obtain rfl:n=14:=by have:=hn.symm.trans (show _=98 from rfl);omega
 refine cd_ (vec 7 (.slice a 14 c) (([⟨17,0,5,0,0,0,0⟩,⟨17,0,6,0,0,0,1⟩,⟨17,0,7,0,0,0,2⟩,⟨6,0,8,0,0,0,1⟩,⟨6,0,9,0,0,0,2⟩,⟨1,1,1,0,0,0,0⟩,⟨14,0,2,1,0,0,62⟩,⟨15,0,2,2,0,0,62⟩,⟨14,0,3,1,0,0,41⟩,⟨15,0,3,3,0,0,43⟩,⟨15,0,4,1,0,0,23⟩,⟨19,0,2,0,0,0,0⟩,⟨8,0,12,4,7,0,0⟩,⟨20,0,5,12,0,0,0⟩]:List Mach.In).map inC).flatten::arr cb 0 [.slice none 0 0,.slice none 0 0]::L) (fun h st=>bm_ st (fun _ z=>z) fun _ z=>bs_ (z)) ?_
 repeat (first | refine bb_ ?_ | (refine wR ?_;try simp only [oS]) | refine ba_ ?_ | refine wM ?_ | refine wA ?_)
 refine bo_ (.cons rfl (.cons rfl (.cons rfl (.cons rfl .nil)))) trivial (jc_ (code:=[⟨17,0,5,0,0,0,0⟩,⟨17,0,6,0,0,0,1⟩,⟨17,0,7,0,0,0,2⟩,⟨6,0,8,0,0,0,1⟩,⟨6,0,9,0,0,0,2⟩,⟨1,1,1,0,0,0,0⟩,⟨14,0,2,1,0,0,62⟩,⟨15,0,2,2,0,0,62⟩,⟨14,0,3,1,0,0,41⟩,⟨15,0,3,3,0,0,43⟩,⟨15,0,4,1,0,0,23⟩,⟨19,0,2,0,0,0,0⟩,⟨8,0,12,4,7,0,0⟩,⟨20,0,5,12,0,0,0⟩]) (st:=9) (fl:=3) (si:=5) (by omega) .here) ?_
 rintro v1 L1 x1 ⟨rfl,rfl⟩
 refine cn_ (bp_ .here (bg_ (by omega))) ?_
 rintro ⟨a,n,c,rfl,hn,_,hz,hy⟩
 obtain rfl:n=20:=by have:=hn.symm.trans (show _=140 from rfl);omega
 refine cd_ (vec 7 (.slice a 20 c) (([⟨17,0,5,0,0,0,0⟩,⟨17,0,6,0,0,0,1⟩,⟨17,0,7,0,0,0,2⟩,⟨6,0,8,0,0,0,1⟩,⟨6,0,9,0,0,0,2⟩,⟨1,1,1,0,0,0,0⟩,⟨14,0,2,1,0,0,62⟩,⟨15,0,2,2,0,0,62⟩,⟨14,0,3,1,0,0,41⟩,⟨15,0,3,3,0,0,43⟩,⟨15,0,4,1,0,0,23⟩,⟨19,0,2,0,0,0,0⟩,⟨8,0,12,4,7,0,0⟩,⟨20,0,5,12,0,0,0⟩,⟨14,0,12,5,0,0,23⟩,⟨14,0,13,3,0,0,2⟩,⟨13,0,10,12,13,0,0⟩,⟨13,0,10,10,9,0,0⟩,⟨5,1,11,0,1,10,0⟩,⟨19,0,11,0,0,0,5⟩]:List Mach.In).map inC).flatten::arr cb 0 [.slice none 0 0,.slice none 0 0]::L) (fun h st=>bm_ st (fun _ z=>z) fun _ z=>z) ?_
 cases a with
 | none=>have:=hz rfl;omega
 | some ad =>
 obtain ⟨kb0,ko,sp⟩:=ad
 cases hy _ rfl
 repeat (first | (apply wo_po;apply fe_;exact rfl;exact cv 20 (by omega);exact trivial) | (apply wo_po;apply cb_ (r:=ko+77);exact rfl;exact rfl;omega;omega;omega;exact trivial) | (apply wo_pm;apply cq_;exact rfl;exact rfl;exact rfl;exact hr_ (i:=83) .here (show 83<_ from by show 83<140;omega);exact trivial) | refine bb_ ?_ | (refine wR ?_;try simp only [oS]) | refine ba_ ?_ | refine wM ?_ | refine wA ?_ | refine wD ?_ | refine wE ?_)
 refine cd_ (vec 7 (.slice (some ⟨kb0,ko,none⟩) 20 c) (([⟨17,0,5,0,0,0,0⟩,⟨17,0,6,0,0,0,1⟩,⟨17,0,7,0,0,0,2⟩,⟨6,0,8,0,0,0,1⟩,⟨6,0,9,0,0,0,2⟩,⟨1,1,1,0,0,0,0⟩,⟨14,0,2,1,0,0,62⟩,⟨15,0,2,2,0,0,62⟩,⟨14,0,3,1,0,0,41⟩,⟨15,0,3,3,0,0,43⟩,⟨15,0,4,1,0,0,23⟩,⟨19,0,2,0,0,0,20⟩,⟨8,0,12,4,7,0,0⟩,⟨20,0,5,12,0,0,0⟩,⟨14,0,12,5,0,0,23⟩,⟨14,0,13,3,0,0,2⟩,⟨13,0,10,12,13,0,0⟩,⟨13,0,10,10,9,0,0⟩,⟨5,1,11,0,1,10,0⟩,⟨19,0,11,0,0,0,5⟩]:List Mach.In).map inC).flatten::arr cb 0 [.slice none 0 0,.slice none 0 0]::L) (fun h st=>st) ?_
 obtain ⟨a,ha⟩:∃ a,some (⟨kb0,ko,none⟩:Addr)=a:=⟨_,rfl⟩
 rw [ha]
 have hz:a=none→20=0:=fun e=>by rw [← ha] at e;cases e
 have hy:∀ y,a=some y→y=⟨y.block,y.off,none⟩:=fun y e=>by rw [← ha] at e;cases e;rfl
 clear ha
 repeat (first | (apply wo_po;apply ce_;(repeat (first | exact EvL.nil | apply EvL.cons rfl));exact rfl;exact trivial) | (apply wo_mo;apply bi_ (sz:=7);exact rfl;(repeat (first | exact EvL.nil | apply EvL.cons rfl));exact rfl;(repeat (first | exact List.forall_mem_nil _ | refine List.forall_mem_cons.2 ⟨rfl,?_⟩));omega;exact trivial))
 rintro v' L' ⟨kb,rfl,rfl⟩
 repeat (first | (apply wo_mo;apply cf_ (sz:=7) (new:=(([⟨22,0,8,0,0,0,0⟩,⟨23,0,0,0,0,0,0⟩]:List Mach.In).map inC).flatten);exact rfl;exact rfl;exact rfl;exact rfl;exact (.there .here);exact rfl;exact .inr ⟨_,_,rfl,Rds.all .here⟩;exact fj_;(simp only [cj_];omega);exact trivial))
 rintro v' L' rfl
 refine cn_ (bp_ .here (bg_ (by omega))) ?_
 rintro ⟨a,n,c,rfl,hn,_,hz,hy⟩
 obtain rfl:n=22:=by have:=hn.symm.trans (show _=154 from rfl);omega
 refine cd_ (vec 7 (.slice a 22 c) (([⟨17,0,5,0,0,0,0⟩,⟨17,0,6,0,0,0,1⟩,⟨17,0,7,0,0,0,2⟩,⟨6,0,8,0,0,0,1⟩,⟨6,0,9,0,0,0,2⟩,⟨1,1,1,0,0,0,0⟩,⟨14,0,2,1,0,0,62⟩,⟨15,0,2,2,0,0,62⟩,⟨14,0,3,1,0,0,41⟩,⟨15,0,3,3,0,0,43⟩,⟨15,0,4,1,0,0,23⟩,⟨19,0,2,0,0,0,20⟩,⟨8,0,12,4,7,0,0⟩,⟨20,0,5,12,0,0,0⟩,⟨14,0,12,5,0,0,23⟩,⟨14,0,13,3,0,0,2⟩,⟨13,0,10,12,13,0,0⟩,⟨13,0,10,10,9,0,0⟩,⟨5,1,11,0,1,10,0⟩,⟨19,0,11,0,0,0,5⟩,⟨22,0,8,0,0,0,0⟩,⟨23,0,0,0,0,0,0⟩]:List Mach.In).map inC).flatten::arr cb 0 [.slice none 0 0,.slice none 0 0]::L) (fun h st=>bm_ st (fun _ z=>z) fun _ z=>bs_ (z)) ?_
 cases a with
 | none=>have:=hz rfl;omega
 | some ad =>
 obtain ⟨kb0,ko,sp⟩:=ad
 cases hy _ rfl
 repeat (first | (apply wo_po;apply fe_;exact rfl;exact cv 22 (by omega);exact trivial) | (apply wo_po;apply cb_ (r:=ko+91);exact rfl;exact rfl;omega;omega;omega;exact trivial) | (apply wo_pm;apply cq_;exact rfl;exact rfl;exact rfl;exact hr_ (i:=97) .here (show 97<_ from by show 97<154;omega);exact trivial) | refine bb_ ?_ | (refine wR ?_;try simp only [oS]) | refine ba_ ?_ | refine wM ?_ | refine wA ?_ | refine wD ?_ | refine wE ?_)
 refine cd_ (vec 7 (.slice (some ⟨kb0,ko,none⟩) 22 c) (([⟨17,0,5,0,0,0,0⟩,⟨17,0,6,0,0,0,1⟩,⟨17,0,7,0,0,0,2⟩,⟨6,0,8,0,0,0,1⟩,⟨6,0,9,0,0,0,2⟩,⟨1,1,1,0,0,0,0⟩,⟨14,0,2,1,0,0,62⟩,⟨15,0,2,2,0,0,62⟩,⟨14,0,3,1,0,0,41⟩,⟨15,0,3,3,0,0,43⟩,⟨15,0,4,1,0,0,23⟩,⟨19,0,2,0,0,0,20⟩,⟨8,0,12,4,7,0,0⟩,⟨20,0,5,12,0,0,22⟩,⟨14,0,12,5,0,0,23⟩,⟨14,0,13,3,0,0,2⟩,⟨13,0,10,12,13,0,0⟩,⟨13,0,10,10,9,0,0⟩,⟨5,1,11,0,1,10,0⟩,⟨19,0,11,0,0,0,5⟩,⟨22,0,8,0,0,0,0⟩,⟨23,0,0,0,0,0,0⟩]:List Mach.In).map inC).flatten::arr cb 0 [.slice none 0 0,.slice none 0 0]::L) (fun h st=>st) ?_
 obtain ⟨a,ha⟩:∃ a,some (⟨kb0,ko,none⟩:Addr)=a:=⟨_,rfl⟩
 rw [ha]
 have hz:a=none→22=0:=fun e=>by rw [← ha] at e;cases e
 have hy:∀ y,a=some y→y=⟨y.block,y.off,none⟩:=fun y e=>by rw [← ha] at e;cases e;rfl
 clear ha
 repeat (first | (apply wo_po;apply ce_;(repeat (first | exact EvL.nil | apply EvL.cons rfl));exact rfl;exact trivial) | (apply wo_mo;apply bi_ (sz:=7);exact rfl;(repeat (first | exact EvL.nil | apply EvL.cons rfl));exact rfl;(repeat (first | exact List.forall_mem_nil _ | refine List.forall_mem_cons.2 ⟨rfl,?_⟩));omega;exact trivial))
 rintro v' L' ⟨kb,rfl,rfl⟩
 repeat (first | (apply wo_mo;apply cf_ (sz:=7) (new:=(([⟨22,0,0,0,0,0,0⟩]:List Mach.In).map inC).flatten);exact rfl;exact rfl;exact rfl;exact rfl;exact (.there .here);exact rfl;exact .inr ⟨_,_,rfl,Rds.all .here⟩;exact fj_;(simp only [cj_];omega);exact trivial))
 rintro v' L' rfl
 refine cn_ (bp_ .here (bg_ (by omega))) ?_
 rintro ⟨a,n,c,rfl,hn,_,hz,hy⟩
 obtain rfl:n=23:=by have:=hn.symm.trans (show _=161 from rfl);omega
 refine cd_ (vec 7 (.slice a 23 c) (([⟨17,0,5,0,0,0,0⟩,⟨17,0,6,0,0,0,1⟩,⟨17,0,7,0,0,0,2⟩,⟨6,0,8,0,0,0,1⟩,⟨6,0,9,0,0,0,2⟩,⟨1,1,1,0,0,0,0⟩,⟨14,0,2,1,0,0,62⟩,⟨15,0,2,2,0,0,62⟩,⟨14,0,3,1,0,0,41⟩,⟨15,0,3,3,0,0,43⟩,⟨15,0,4,1,0,0,23⟩,⟨19,0,2,0,0,0,20⟩,⟨8,0,12,4,7,0,0⟩,⟨20,0,5,12,0,0,22⟩,⟨14,0,12,5,0,0,23⟩,⟨14,0,13,3,0,0,2⟩,⟨13,0,10,12,13,0,0⟩,⟨13,0,10,10,9,0,0⟩,⟨5,1,11,0,1,10,0⟩,⟨19,0,11,0,0,0,5⟩,⟨22,0,8,0,0,0,0⟩,⟨23,0,0,0,0,0,0⟩,⟨22,0,0,0,0,0,0⟩]:List Mach.In).map inC).flatten::arr cb 0 [.slice none 0 0,.slice none 0 0]::L) (fun h st=>bm_ st (fun _ z=>z) fun _ z=>bs_ (z)) ?_
 repeat (first | (apply wo_mo;apply bi_ (sz:=1) (vs:=[Go.PB.num now,Go.PB.num fails,Go.PB.num wait]);exact rfl;(repeat (first | exact EvL.nil | apply EvL.cons rfl));exact rfl;(repeat (first | exact List.forall_mem_nil _ | refine List.forall_mem_cons.2 ⟨rfl,?_⟩));omega;exact trivial) | refine wM ?_)
 rintro v' L' ⟨db,rfl,rfl⟩
 repeat (first | (apply wo_po;apply ce_;(repeat (first | exact EvL.nil | apply EvL.cons rfl));exact rfl;exact trivial) | (apply wo_pm;apply bw_ (b:=cb) (c:=0) (k:=0) (a:=0) (vs:=[.slice none 0 0,.slice none 0 0]);exact rfl;exact rfl;exact rfl;(intro w hw;simp [Value.cells] at hw;rcases hw with rfl | rfl <;> rfl);exact rfl;exact Nat.le_refl 2;exact (.there (.there .here));exact trivial) | refine ba_ ?_ | refine bn_ ?_)
 refine cp_ (rs:=[.cell 6 103]) Try.func64 Try.results64 hQ (.inl rfl) (.cons (.cell (vs:=[.slice a 23 c,.slice (some ⟨db,0,none⟩) 3 3]) rfl rfl (Rds.all (.there (.there .here)))) .nil) ?_
 exact ⟨_,_,_,rfl,rfl,fun h st=>yr_ (cl:=(Mach.gaskCl now fails wait)) rfl rfl (Ent.star (.take (.there .here) (.take .here (.drop .refl))) st)⟩
set_option maxRecDepth 20000 in
set_option maxHeartbeats 2000000 in
theorem bvk:Tr Try.prog B 66 [.int .u64 (now:Nat),.int .u64 (fails:Nat),.int .u64 (wait:Nat),.bool true] L x fun w L' x'=>∃ a c db,w=.agg #[.slice a 29 c,.slice (some ⟨db,0,none⟩) 3 3]∧L'=clC (.slice a 29 c) (.slice (some ⟨db,0,none⟩) 3 3) (Mach.gtellgCl now fails wait)::L∧x'=x:=by
 refine Tr.post (R:=fun v L' x'=>∃ a c db,v=.agg #[.slice a 29 c,.slice (some ⟨db,0,none⟩) 3 3]∧x'=x∧∀ h,Star L' h→Star (clC (.slice a 29 c) (.slice (some ⟨db,0,none⟩) 3 3) (Mach.gtellgCl now fails wait)::L) h) ?_
  (by rintro v L' x' ⟨a,c,db,rfl,rfl,hs⟩;exact ⟨_,⟨a,c,db,rfl,rfl,rfl⟩,hs⟩)
 have cv:∀ n:Nat,n<1000→IntKind.u64.wrap ((n:Nat):Int)=((n:Nat):Int):=fun n hn=>wrap_u64 (by omega) (by omega)
 refine bd_ Try.func66 rfl Try.ntmps66 (by simp) fun um Q _ hQ=>?_
 simp only [argE,Nat.zero_add,Nat.reduceAdd]
 repeat (first | (apply wo_mo;apply ck_;exact trivial) | refine bb_ ?_ | (refine wR ?_;try simp only [oS]))
 rintro v' L' ⟨cb,rfl,rfl⟩
 repeat (first | refine bb_ ?_ | (refine wR ?_;try simp only [oS]) | refine ba_ ?_)
 refine bo_ .nil trivial vo_ ?_
 rintro v1 L1 x1 ⟨a,c,rfl,rfl,rfl⟩
 refine cd_ (vec 7 (.slice a 11 c) (([⟨17,0,5,0,0,0,0⟩,⟨17,0,6,0,0,0,1⟩,⟨17,0,7,0,0,0,2⟩,⟨6,0,8,0,0,0,1⟩,⟨6,0,9,0,0,0,2⟩,⟨1,1,1,0,0,0,0⟩,⟨14,0,2,1,0,0,62⟩,⟨15,0,2,2,0,0,62⟩,⟨14,0,3,1,0,0,41⟩,⟨15,0,3,3,0,0,43⟩,⟨15,0,4,1,0,0,23⟩]:List Mach.In).map inC).flatten::arr cb 0 [.slice none 0 0,.slice none 0 0]::L) (fun h st=>st) ?_
 repeat (first | (apply wo_po;apply ce_;(repeat (first | exact EvL.nil | apply EvL.cons rfl));exact rfl;exact trivial) | (apply wo_mo;apply bi_ (sz:=7);exact rfl;(repeat (first | exact EvL.nil | apply EvL.cons rfl));exact rfl;(repeat (first | exact List.forall_mem_nil _ | refine List.forall_mem_cons.2 ⟨rfl,?_⟩));omega;exact trivial) | refine bb_ ?_ | (refine wR ?_;try simp only [oS]) | refine ba_ ?_ | refine wM ?_ | refine wA ?_ | refine wE ?_)
 rintro v' L' ⟨kb,rfl,rfl⟩
 repeat (first | (apply wo_mo;apply cf_ (sz:=7) (new:=(([⟨19,0,2,0,0,0,0⟩]:List Mach.In).map inC).flatten);exact rfl;exact rfl;exact rfl;exact rfl;exact (.there .here);exact rfl;exact .inr ⟨_,_,rfl,Rds.all .here⟩;exact fj_;(simp only [cj_];omega);exact trivial))
 rintro v' L' rfl
 refine cn_ (bp_ .here (bg_ (by omega))) ?_
 rintro ⟨a,n,c,rfl,hn,_,hz,hy⟩
 obtain rfl:n=12:=by have:=hn.symm.trans (show _=84 from rfl);omega
 refine cd_ (vec 7 (.slice a 12 c) (([⟨17,0,5,0,0,0,0⟩,⟨17,0,6,0,0,0,1⟩,⟨17,0,7,0,0,0,2⟩,⟨6,0,8,0,0,0,1⟩,⟨6,0,9,0,0,0,2⟩,⟨1,1,1,0,0,0,0⟩,⟨14,0,2,1,0,0,62⟩,⟨15,0,2,2,0,0,62⟩,⟨14,0,3,1,0,0,41⟩,⟨15,0,3,3,0,0,43⟩,⟨15,0,4,1,0,0,23⟩,⟨19,0,2,0,0,0,0⟩]:List Mach.In).map inC).flatten::arr cb 0 [.slice none 0 0,.slice none 0 0]::L) (fun h st=>bm_ st (fun _ z=>z) fun _ z=>bs_ (z)) ?_
 repeat (first | (apply wo_po;apply ce_;(repeat (first | exact EvL.nil | apply EvL.cons rfl));exact rfl;exact trivial) | (apply wo_mo;apply bi_ (sz:=7);exact rfl;(repeat (first | exact EvL.nil | apply EvL.cons rfl));exact rfl;(repeat (first | exact List.forall_mem_nil _ | refine List.forall_mem_cons.2 ⟨rfl,?_⟩));omega;exact trivial) | refine bb_ ?_ | (refine wR ?_;try simp only [oS]) | refine ba_ ?_ | refine wM ?_ | refine wA ?_ | refine wE ?_)
 rintro v' L' ⟨kb,rfl,rfl⟩
 repeat (first | (apply wo_mo;apply cf_ (sz:=7) (new:=(([⟨19,0,2,8,0,0,0⟩]:List Mach.In).map inC).flatten);exact rfl;exact rfl;exact rfl;exact rfl;exact (.there .here);exact rfl;exact .inr ⟨_,_,rfl,Rds.all .here⟩;exact fj_;(simp only [cj_];omega);exact trivial))
 rintro v' L' rfl
 refine cn_ (bp_ .here (bg_ (by omega))) ?_
 rintro ⟨a,n,c,rfl,hn,_,hz,hy⟩
 obtain rfl:n=13:=by have:=hn.symm.trans (show _=91 from rfl);omega
 refine cd_ (vec 7 (.slice a 13 c) (([⟨17,0,5,0,0,0,0⟩,⟨17,0,6,0,0,0,1⟩,⟨17,0,7,0,0,0,2⟩,⟨6,0,8,0,0,0,1⟩,⟨6,0,9,0,0,0,2⟩,⟨1,1,1,0,0,0,0⟩,⟨14,0,2,1,0,0,62⟩,⟨15,0,2,2,0,0,62⟩,⟨14,0,3,1,0,0,41⟩,⟨15,0,3,3,0,0,43⟩,⟨15,0,4,1,0,0,23⟩,⟨19,0,2,0,0,0,0⟩,⟨19,0,2,8,0,0,0⟩]:List Mach.In).map inC).flatten::arr cb 0 [.slice none 0 0,.slice none 0 0]::L) (fun h st=>bm_ st (fun _ z=>z) fun _ z=>bs_ (z)) ?_
 repeat (first | refine bb_ ?_ | (refine wR ?_;try simp only [oS]) | refine ba_ ?_ | refine wM ?_ | refine wA ?_ | refine wT ?_)
 refine bo_ (.cons rfl (.cons rfl (.cons rfl (.cons rfl .nil)))) trivial (jc_ (code:=[⟨17,0,5,0,0,0,0⟩,⟨17,0,6,0,0,0,1⟩,⟨17,0,7,0,0,0,2⟩,⟨6,0,8,0,0,0,1⟩,⟨6,0,9,0,0,0,2⟩,⟨1,1,1,0,0,0,0⟩,⟨14,0,2,1,0,0,62⟩,⟨15,0,2,2,0,0,62⟩,⟨14,0,3,1,0,0,41⟩,⟨15,0,3,3,0,0,43⟩,⟨15,0,4,1,0,0,23⟩,⟨19,0,2,0,0,0,0⟩,⟨19,0,2,8,0,0,0⟩]) (st:=0) (fl:=0) (si:=0) (by omega) .here) ?_
 rintro v1 L1 x1 ⟨rfl,rfl⟩
 refine cn_ (bp_ .here (bg_ (by omega))) ?_
 rintro ⟨a,n,c,rfl,hn,_,hz,hy⟩
 obtain rfl:n=19:=by have:=hn.symm.trans (show _=133 from rfl);omega
 refine cd_ (vec 7 (.slice a 19 c) (([⟨17,0,5,0,0,0,0⟩,⟨17,0,6,0,0,0,1⟩,⟨17,0,7,0,0,0,2⟩,⟨6,0,8,0,0,0,1⟩,⟨6,0,9,0,0,0,2⟩,⟨1,1,1,0,0,0,0⟩,⟨14,0,2,1,0,0,62⟩,⟨15,0,2,2,0,0,62⟩,⟨14,0,3,1,0,0,41⟩,⟨15,0,3,3,0,0,43⟩,⟨15,0,4,1,0,0,23⟩,⟨19,0,2,0,0,0,0⟩,⟨19,0,2,8,0,0,0⟩,⟨14,0,12,0,0,0,23⟩,⟨14,0,13,0,0,0,2⟩,⟨13,0,10,12,13,0,0⟩,⟨13,0,10,10,0,0,0⟩,⟨5,1,11,0,1,10,0⟩,⟨19,0,11,0,0,0,5⟩]:List Mach.In).map inC).flatten::arr cb 0 [.slice none 0 0,.slice none 0 0]::L) (fun h st=>bm_ st (fun _ z=>z) fun _ z=>z) ?_
 repeat (first | (apply wo_po;apply ce_;(repeat (first | exact EvL.nil | apply EvL.cons rfl));exact rfl;exact trivial) | (apply wo_mo;apply bi_ (sz:=7);exact rfl;(repeat (first | exact EvL.nil | apply EvL.cons rfl));exact rfl;(repeat (first | exact List.forall_mem_nil _ | refine List.forall_mem_cons.2 ⟨rfl,?_⟩));omega;exact trivial) | refine bb_ ?_ | (refine wR ?_;try simp only [oS]) | refine ba_ ?_ | refine wM ?_ | refine wA ?_)
 rintro v' L' ⟨kb,rfl,rfl⟩
 repeat (first | (apply wo_mo;apply cf_ (sz:=7) (new:=(([⟨23,0,0,0,0,0,0⟩]:List Mach.In).map inC).flatten);exact rfl;exact rfl;exact rfl;exact rfl;exact (.there .here);exact rfl;exact .inr ⟨_,_,rfl,Rds.all .here⟩;exact fj_;(simp only [cj_];omega);exact trivial))
 rintro v' L' rfl
 refine cn_ (bp_ .here (bg_ (by omega))) ?_
 rintro ⟨a,n,c,rfl,hn,_,hz,hy⟩
 obtain rfl:n=20:=by have:=hn.symm.trans (show _=140 from rfl);omega
 refine cd_ (vec 7 (.slice a 20 c) (([⟨17,0,5,0,0,0,0⟩,⟨17,0,6,0,0,0,1⟩,⟨17,0,7,0,0,0,2⟩,⟨6,0,8,0,0,0,1⟩,⟨6,0,9,0,0,0,2⟩,⟨1,1,1,0,0,0,0⟩,⟨14,0,2,1,0,0,62⟩,⟨15,0,2,2,0,0,62⟩,⟨14,0,3,1,0,0,41⟩,⟨15,0,3,3,0,0,43⟩,⟨15,0,4,1,0,0,23⟩,⟨19,0,2,0,0,0,0⟩,⟨19,0,2,8,0,0,0⟩,⟨14,0,12,0,0,0,23⟩,⟨14,0,13,0,0,0,2⟩,⟨13,0,10,12,13,0,0⟩,⟨13,0,10,10,0,0,0⟩,⟨5,1,11,0,1,10,0⟩,⟨19,0,11,0,0,0,5⟩,⟨23,0,0,0,0,0,0⟩]:List Mach.In).map inC).flatten::arr cb 0 [.slice none 0 0,.slice none 0 0]::L) (fun h st=>bm_ st (fun _ z=>z) fun _ z=>bs_ (z)) ?_
 cases a with
 | none=>have:=hz rfl;omega
 | some ad =>
 obtain ⟨kb0,ko,sp⟩:=ad
 cases hy _ rfl
 repeat (first | (apply wo_po;apply fe_;exact rfl;exact cv 20 (by omega);exact trivial) | (apply wo_po;apply cb_ (r:=ko+84);exact rfl;exact rfl;omega;omega;omega;exact trivial) | (apply wo_pm;apply cq_;exact rfl;exact rfl;exact rfl;exact hr_ (i:=90) .here (show 90<_ from by show 90<140;omega);exact trivial) | refine bb_ ?_ | (refine wR ?_;try simp only [oS]) | refine ba_ ?_ | refine wM ?_ | refine wA ?_ | refine wD ?_ | refine wE ?_)
 refine cd_ (vec 7 (.slice (some ⟨kb0,ko,none⟩) 20 c) (([⟨17,0,5,0,0,0,0⟩,⟨17,0,6,0,0,0,1⟩,⟨17,0,7,0,0,0,2⟩,⟨6,0,8,0,0,0,1⟩,⟨6,0,9,0,0,0,2⟩,⟨1,1,1,0,0,0,0⟩,⟨14,0,2,1,0,0,62⟩,⟨15,0,2,2,0,0,62⟩,⟨14,0,3,1,0,0,41⟩,⟨15,0,3,3,0,0,43⟩,⟨15,0,4,1,0,0,23⟩,⟨19,0,2,0,0,0,0⟩,⟨19,0,2,8,0,0,20⟩,⟨14,0,12,0,0,0,23⟩,⟨14,0,13,0,0,0,2⟩,⟨13,0,10,12,13,0,0⟩,⟨13,0,10,10,0,0,0⟩,⟨5,1,11,0,1,10,0⟩,⟨19,0,11,0,0,0,5⟩,⟨23,0,0,0,0,0,0⟩]:List Mach.In).map inC).flatten::arr cb 0 [.slice none 0 0,.slice none 0 0]::L) (fun h st=>st) ?_
 obtain ⟨a,ha⟩:∃ a,some (⟨kb0,ko,none⟩:Addr)=a:=⟨_,rfl⟩
 rw [ha]
 have hz:a=none→20=0:=fun e=>by rw [← ha] at e;cases e
 have hy:∀ y,a=some y→y=⟨y.block,y.off,none⟩:=fun y e=>by rw [← ha] at e;cases e;rfl
 clear ha
 repeat (first | (apply wo_po;apply ce_;(repeat (first | exact EvL.nil | apply EvL.cons rfl));exact rfl;exact trivial) | (apply wo_mo;apply bi_ (sz:=7);exact rfl;(repeat (first | exact EvL.nil | apply EvL.cons rfl));exact rfl;(repeat (first | exact List.forall_mem_nil _ | refine List.forall_mem_cons.2 ⟨rfl,?_⟩));omega;exact trivial))
 rintro v' L' ⟨kb,rfl,rfl⟩
 repeat (first | (apply wo_mo;apply cf_ (sz:=7) (new:=(([⟨23,0,0,0,0,0,0⟩]:List Mach.In).map inC).flatten);exact rfl;exact rfl;exact rfl;exact rfl;exact (.there .here);exact rfl;exact .inr ⟨_,_,rfl,Rds.all .here⟩;exact fj_;(simp only [cj_];omega);exact trivial))
 rintro v' L' rfl
 refine cn_ (bp_ .here (bg_ (by omega))) ?_
 rintro ⟨a,n,c,rfl,hn,_,hz,hy⟩
 obtain rfl:n=21:=by have:=hn.symm.trans (show _=147 from rfl);omega
 refine cd_ (vec 7 (.slice a 21 c) (([⟨17,0,5,0,0,0,0⟩,⟨17,0,6,0,0,0,1⟩,⟨17,0,7,0,0,0,2⟩,⟨6,0,8,0,0,0,1⟩,⟨6,0,9,0,0,0,2⟩,⟨1,1,1,0,0,0,0⟩,⟨14,0,2,1,0,0,62⟩,⟨15,0,2,2,0,0,62⟩,⟨14,0,3,1,0,0,41⟩,⟨15,0,3,3,0,0,43⟩,⟨15,0,4,1,0,0,23⟩,⟨19,0,2,0,0,0,0⟩,⟨19,0,2,8,0,0,20⟩,⟨14,0,12,0,0,0,23⟩,⟨14,0,13,0,0,0,2⟩,⟨13,0,10,12,13,0,0⟩,⟨13,0,10,10,0,0,0⟩,⟨5,1,11,0,1,10,0⟩,⟨19,0,11,0,0,0,5⟩,⟨23,0,0,0,0,0,0⟩,⟨23,0,0,0,0,0,0⟩]:List Mach.In).map inC).flatten::arr cb 0 [.slice none 0 0,.slice none 0 0]::L) (fun h st=>bm_ st (fun _ z=>z) fun _ z=>bs_ (z)) ?_
 cases a with
 | none=>have:=hz rfl;omega
 | some ad =>
 obtain ⟨kb0,ko,sp⟩:=ad
 cases hy _ rfl
 repeat (first | (apply wo_po;apply fe_;exact rfl;exact cv 21 (by omega);exact trivial) | (apply wo_po;apply cb_ (r:=ko+77);exact rfl;exact rfl;omega;omega;omega;exact trivial) | (apply wo_pm;apply cq_;exact rfl;exact rfl;exact rfl;exact hr_ (i:=83) .here (show 83<_ from by show 83<147;omega);exact trivial) | refine bb_ ?_ | (refine wR ?_;try simp only [oS]) | refine ba_ ?_ | refine wM ?_ | refine wA ?_ | refine wD ?_ | refine wE ?_ | refine wT ?_)
 refine cd_ (vec 7 (.slice (some ⟨kb0,ko,none⟩) 21 c) (([⟨17,0,5,0,0,0,0⟩,⟨17,0,6,0,0,0,1⟩,⟨17,0,7,0,0,0,2⟩,⟨6,0,8,0,0,0,1⟩,⟨6,0,9,0,0,0,2⟩,⟨1,1,1,0,0,0,0⟩,⟨14,0,2,1,0,0,62⟩,⟨15,0,2,2,0,0,62⟩,⟨14,0,3,1,0,0,41⟩,⟨15,0,3,3,0,0,43⟩,⟨15,0,4,1,0,0,23⟩,⟨19,0,2,0,0,0,21⟩,⟨19,0,2,8,0,0,20⟩,⟨14,0,12,0,0,0,23⟩,⟨14,0,13,0,0,0,2⟩,⟨13,0,10,12,13,0,0⟩,⟨13,0,10,10,0,0,0⟩,⟨5,1,11,0,1,10,0⟩,⟨19,0,11,0,0,0,5⟩,⟨23,0,0,0,0,0,0⟩,⟨23,0,0,0,0,0,0⟩]:List Mach.In).map inC).flatten::arr cb 0 [.slice none 0 0,.slice none 0 0]::L) (fun h st=>st) ?_
 obtain ⟨a,ha⟩:∃ a,some (⟨kb0,ko,none⟩:Addr)=a:=⟨_,rfl⟩
 rw [ha]
 have hz:a=none→21=0:=fun e=>by rw [← ha] at e;cases e
 have hy:∀ y,a=some y→y=⟨y.block,y.off,none⟩:=fun y e=>by rw [← ha] at e;cases e;rfl
 clear ha
 repeat (first | (apply wo_po;apply ce_;(repeat (first | exact EvL.nil | apply EvL.cons rfl));exact rfl;exact trivial) | (apply wo_mo;apply bi_ (sz:=7);exact rfl;(repeat (first | exact EvL.nil | apply EvL.cons rfl));exact rfl;(repeat (first | exact List.forall_mem_nil _ | refine List.forall_mem_cons.2 ⟨rfl,?_⟩));omega;exact trivial))
 rintro v' L' ⟨kb,rfl,rfl⟩
 repeat (first | (apply wo_mo;apply cf_ (sz:=7) (new:=(([⟨19,0,3,0,0,0,0⟩]:List Mach.In).map inC).flatten);exact rfl;exact rfl;exact rfl;exact rfl;exact (.there .here);exact rfl;exact .inr ⟨_,_,rfl,Rds.all .here⟩;exact fj_;(simp only [cj_];omega);exact trivial))
 rintro v' L' rfl
 refine cn_ (bp_ .here (bg_ (by omega))) ?_
 rintro ⟨a,n,c,rfl,hn,_,hz,hy⟩
 obtain rfl:n=22:=by have:=hn.symm.trans (show _=154 from rfl);omega
 refine cd_ (vec 7 (.slice a 22 c) (([⟨17,0,5,0,0,0,0⟩,⟨17,0,6,0,0,0,1⟩,⟨17,0,7,0,0,0,2⟩,⟨6,0,8,0,0,0,1⟩,⟨6,0,9,0,0,0,2⟩,⟨1,1,1,0,0,0,0⟩,⟨14,0,2,1,0,0,62⟩,⟨15,0,2,2,0,0,62⟩,⟨14,0,3,1,0,0,41⟩,⟨15,0,3,3,0,0,43⟩,⟨15,0,4,1,0,0,23⟩,⟨19,0,2,0,0,0,21⟩,⟨19,0,2,8,0,0,20⟩,⟨14,0,12,0,0,0,23⟩,⟨14,0,13,0,0,0,2⟩,⟨13,0,10,12,13,0,0⟩,⟨13,0,10,10,0,0,0⟩,⟨5,1,11,0,1,10,0⟩,⟨19,0,11,0,0,0,5⟩,⟨23,0,0,0,0,0,0⟩,⟨23,0,0,0,0,0,0⟩,⟨19,0,3,0,0,0,0⟩]:List Mach.In).map inC).flatten::arr cb 0 [.slice none 0 0,.slice none 0 0]::L) (fun h st=>bm_ st (fun _ z=>z) fun _ z=>bs_ (z)) ?_
 repeat (first | refine bb_ ?_ | (refine wR ?_;try simp only [oS]) | refine ba_ ?_ | refine wM ?_ | refine wA ?_)
 refine bo_ (.cons rfl (.cons rfl (.cons rfl (.cons rfl .nil)))) trivial (jc_ (code:=[⟨17,0,5,0,0,0,0⟩,⟨17,0,6,0,0,0,1⟩,⟨17,0,7,0,0,0,2⟩,⟨6,0,8,0,0,0,1⟩,⟨6,0,9,0,0,0,2⟩,⟨1,1,1,0,0,0,0⟩,⟨14,0,2,1,0,0,62⟩,⟨15,0,2,2,0,0,62⟩,⟨14,0,3,1,0,0,41⟩,⟨15,0,3,3,0,0,43⟩,⟨15,0,4,1,0,0,23⟩,⟨19,0,2,0,0,0,21⟩,⟨19,0,2,8,0,0,20⟩,⟨14,0,12,0,0,0,23⟩,⟨14,0,13,0,0,0,2⟩,⟨13,0,10,12,13,0,0⟩,⟨13,0,10,10,0,0,0⟩,⟨5,1,11,0,1,10,0⟩,⟨19,0,11,0,0,0,5⟩,⟨23,0,0,0,0,0,0⟩,⟨23,0,0,0,0,0,0⟩,⟨19,0,3,0,0,0,0⟩]) (st:=0) (fl:=0) (si:=0) (by omega) .here) ?_
 rintro v1 L1 x1 ⟨rfl,rfl⟩
 refine cn_ (bp_ .here (bg_ (by omega))) ?_
 rintro ⟨a,n,c,rfl,hn,_,hz,hy⟩
 obtain rfl:n=28:=by have:=hn.symm.trans (show _=196 from rfl);omega
 refine cd_ (vec 7 (.slice a 28 c) (([⟨17,0,5,0,0,0,0⟩,⟨17,0,6,0,0,0,1⟩,⟨17,0,7,0,0,0,2⟩,⟨6,0,8,0,0,0,1⟩,⟨6,0,9,0,0,0,2⟩,⟨1,1,1,0,0,0,0⟩,⟨14,0,2,1,0,0,62⟩,⟨15,0,2,2,0,0,62⟩,⟨14,0,3,1,0,0,41⟩,⟨15,0,3,3,0,0,43⟩,⟨15,0,4,1,0,0,23⟩,⟨19,0,2,0,0,0,21⟩,⟨19,0,2,8,0,0,20⟩,⟨14,0,12,0,0,0,23⟩,⟨14,0,13,0,0,0,2⟩,⟨13,0,10,12,13,0,0⟩,⟨13,0,10,10,0,0,0⟩,⟨5,1,11,0,1,10,0⟩,⟨19,0,11,0,0,0,5⟩,⟨23,0,0,0,0,0,0⟩,⟨23,0,0,0,0,0,0⟩,⟨19,0,3,0,0,0,0⟩,⟨14,0,12,0,0,0,23⟩,⟨14,0,13,0,0,0,2⟩,⟨13,0,10,12,13,0,0⟩,⟨13,0,10,10,0,0,0⟩,⟨5,1,11,0,1,10,0⟩,⟨19,0,11,0,0,0,5⟩]:List Mach.In).map inC).flatten::arr cb 0 [.slice none 0 0,.slice none 0 0]::L) (fun h st=>bm_ st (fun _ z=>z) fun _ z=>z) ?_
 cases a with
 | none=>have:=hz rfl;omega
 | some ad =>
 obtain ⟨kb0,ko,sp⟩:=ad
 cases hy _ rfl
 repeat (first | (apply wo_po;apply fe_;exact rfl;exact cv 28 (by omega);exact trivial) | (apply wo_po;apply cb_ (r:=ko+147);exact rfl;exact rfl;omega;omega;omega;exact trivial) | (apply wo_pm;apply cq_;exact rfl;exact rfl;exact rfl;exact hr_ (i:=153) .here (show 153<_ from by show 153<196;omega);exact trivial) | refine bb_ ?_ | (refine wR ?_;try simp only [oS]) | refine ba_ ?_ | refine wM ?_ | refine wA ?_ | refine wD ?_ | refine wE ?_)
 refine cd_ (vec 7 (.slice (some ⟨kb0,ko,none⟩) 28 c) (([⟨17,0,5,0,0,0,0⟩,⟨17,0,6,0,0,0,1⟩,⟨17,0,7,0,0,0,2⟩,⟨6,0,8,0,0,0,1⟩,⟨6,0,9,0,0,0,2⟩,⟨1,1,1,0,0,0,0⟩,⟨14,0,2,1,0,0,62⟩,⟨15,0,2,2,0,0,62⟩,⟨14,0,3,1,0,0,41⟩,⟨15,0,3,3,0,0,43⟩,⟨15,0,4,1,0,0,23⟩,⟨19,0,2,0,0,0,21⟩,⟨19,0,2,8,0,0,20⟩,⟨14,0,12,0,0,0,23⟩,⟨14,0,13,0,0,0,2⟩,⟨13,0,10,12,13,0,0⟩,⟨13,0,10,10,0,0,0⟩,⟨5,1,11,0,1,10,0⟩,⟨19,0,11,0,0,0,5⟩,⟨23,0,0,0,0,0,0⟩,⟨23,0,0,0,0,0,0⟩,⟨19,0,3,0,0,0,28⟩,⟨14,0,12,0,0,0,23⟩,⟨14,0,13,0,0,0,2⟩,⟨13,0,10,12,13,0,0⟩,⟨13,0,10,10,0,0,0⟩,⟨5,1,11,0,1,10,0⟩,⟨19,0,11,0,0,0,5⟩]:List Mach.In).map inC).flatten::arr cb 0 [.slice none 0 0,.slice none 0 0]::L) (fun h st=>st) ?_
 obtain ⟨a,ha⟩:∃ a,some (⟨kb0,ko,none⟩:Addr)=a:=⟨_,rfl⟩
 rw [ha]
 have hz:a=none→28=0:=fun e=>by rw [← ha] at e;cases e
 have hy:∀ y,a=some y→y=⟨y.block,y.off,none⟩:=fun y e=>by rw [← ha] at e;cases e;rfl
 clear ha
 repeat (first | (apply wo_po;apply ce_;(repeat (first | exact EvL.nil | apply EvL.cons rfl));exact rfl;exact trivial) | (apply wo_mo;apply bi_ (sz:=7);exact rfl;(repeat (first | exact EvL.nil | apply EvL.cons rfl));exact rfl;(repeat (first | exact List.forall_mem_nil _ | refine List.forall_mem_cons.2 ⟨rfl,?_⟩));omega;exact trivial))
 rintro v' L' ⟨kb,rfl,rfl⟩
 repeat (first | (apply wo_mo;apply cf_ (sz:=7) (new:=(([⟨23,0,0,0,0,0,0⟩]:List Mach.In).map inC).flatten);exact rfl;exact rfl;exact rfl;exact rfl;exact (.there .here);exact rfl;exact .inr ⟨_,_,rfl,Rds.all .here⟩;exact fj_;(simp only [cj_];omega);exact trivial))
 rintro v' L' rfl
 refine cn_ (bp_ .here (bg_ (by omega))) ?_
 rintro ⟨a,n,c,rfl,hn,_,hz,hy⟩
 obtain rfl:n=29:=by have:=hn.symm.trans (show _=203 from rfl);omega
 refine cd_ (vec 7 (.slice a 29 c) (([⟨17,0,5,0,0,0,0⟩,⟨17,0,6,0,0,0,1⟩,⟨17,0,7,0,0,0,2⟩,⟨6,0,8,0,0,0,1⟩,⟨6,0,9,0,0,0,2⟩,⟨1,1,1,0,0,0,0⟩,⟨14,0,2,1,0,0,62⟩,⟨15,0,2,2,0,0,62⟩,⟨14,0,3,1,0,0,41⟩,⟨15,0,3,3,0,0,43⟩,⟨15,0,4,1,0,0,23⟩,⟨19,0,2,0,0,0,21⟩,⟨19,0,2,8,0,0,20⟩,⟨14,0,12,0,0,0,23⟩,⟨14,0,13,0,0,0,2⟩,⟨13,0,10,12,13,0,0⟩,⟨13,0,10,10,0,0,0⟩,⟨5,1,11,0,1,10,0⟩,⟨19,0,11,0,0,0,5⟩,⟨23,0,0,0,0,0,0⟩,⟨23,0,0,0,0,0,0⟩,⟨19,0,3,0,0,0,28⟩,⟨14,0,12,0,0,0,23⟩,⟨14,0,13,0,0,0,2⟩,⟨13,0,10,12,13,0,0⟩,⟨13,0,10,10,0,0,0⟩,⟨5,1,11,0,1,10,0⟩,⟨19,0,11,0,0,0,5⟩,⟨23,0,0,0,0,0,0⟩]:List Mach.In).map inC).flatten::arr cb 0 [.slice none 0 0,.slice none 0 0]::L) (fun h st=>bm_ st (fun _ z=>z) fun _ z=>bs_ (z)) ?_
 repeat (first | (apply wo_mo;apply bi_ (sz:=1) (vs:=[Go.PB.num now,Go.PB.num fails,Go.PB.num wait]);exact rfl;(repeat (first | exact EvL.nil | apply EvL.cons rfl));exact rfl;(repeat (first | exact List.forall_mem_nil _ | refine List.forall_mem_cons.2 ⟨rfl,?_⟩));omega;exact trivial) | refine wM ?_)
 rintro v' L' ⟨db,rfl,rfl⟩
 repeat (first | (apply wo_po;apply ce_;(repeat (first | exact EvL.nil | apply EvL.cons rfl));exact rfl;exact trivial) | (apply wo_pm;apply bw_ (b:=cb) (c:=0) (k:=0) (a:=0) (vs:=[.slice none 0 0,.slice none 0 0]);exact rfl;exact rfl;exact rfl;(intro w hw;simp [Value.cells] at hw;rcases hw with rfl | rfl <;> rfl);exact rfl;exact Nat.le_refl 2;exact (.there (.there .here));exact trivial) | refine ba_ ?_ | refine bn_ ?_)
 refine cp_ (rs:=[.cell 8 103]) Try.func66 Try.results66 hQ (.inl rfl) (.cons (.cell (vs:=[.slice a 29 c,.slice (some ⟨db,0,none⟩) 3 3]) rfl rfl (Rds.all (.there (.there .here)))) .nil) ?_
 exact ⟨_,_,_,rfl,rfl,fun h st=>yr_ (cl:=(Mach.gtellgCl now fails wait)) rfl rfl (Ent.star (.take (.there .here) (.take .here (.drop .refl))) st)⟩
set_option maxRecDepth 20000 in
set_option maxHeartbeats 2000000 in
theorem bvm:Tr Try.prog B 66 [.int .u64 (now:Nat),.int .u64 (fails:Nat),.int .u64 (wait:Nat),.bool false] L x fun w L' x'=>∃ a c db,w=.agg #[.slice a 36 c,.slice (some ⟨db,0,none⟩) 3 3]∧L'=clC (.slice a 36 c) (.slice (some ⟨db,0,none⟩) 3 3) (Mach.gtellbCl now fails wait)::L∧x'=x:=by
 refine Tr.post (R:=fun v L' x'=>∃ a c db,v=.agg #[.slice a 36 c,.slice (some ⟨db,0,none⟩) 3 3]∧x'=x∧∀ h,Star L' h→Star (clC (.slice a 36 c) (.slice (some ⟨db,0,none⟩) 3 3) (Mach.gtellbCl now fails wait)::L) h) ?_
  (by rintro v L' x' ⟨a,c,db,rfl,rfl,hs⟩;exact ⟨_,⟨a,c,db,rfl,rfl,rfl⟩,hs⟩)
 have cv:∀ n:Nat,n<1000→IntKind.u64.wrap ((n:Nat):Int)=((n:Nat):Int):=fun n hn=>wrap_u64 (by omega) (by omega)
 refine bd_ Try.func66 rfl Try.ntmps66 (by simp) fun um Q _ hQ=>?_
 simp only [argE,Nat.zero_add,Nat.reduceAdd]
 repeat (first | (apply wo_mo;apply ck_;exact trivial) | refine bb_ ?_ | (refine wR ?_;try simp only [oS]))
 rintro v' L' ⟨cb,rfl,rfl⟩
 repeat (first | refine bb_ ?_ | (refine wR ?_;try simp only [oS]) | refine ba_ ?_)
 refine bo_ .nil trivial vo_ ?_
 rintro v1 L1 x1 ⟨a,c,rfl,rfl,rfl⟩
 refine cd_ (vec 7 (.slice a 11 c) (([⟨17,0,5,0,0,0,0⟩,⟨17,0,6,0,0,0,1⟩,⟨17,0,7,0,0,0,2⟩,⟨6,0,8,0,0,0,1⟩,⟨6,0,9,0,0,0,2⟩,⟨1,1,1,0,0,0,0⟩,⟨14,0,2,1,0,0,62⟩,⟨15,0,2,2,0,0,62⟩,⟨14,0,3,1,0,0,41⟩,⟨15,0,3,3,0,0,43⟩,⟨15,0,4,1,0,0,23⟩]:List Mach.In).map inC).flatten::arr cb 0 [.slice none 0 0,.slice none 0 0]::L) (fun h st=>st) ?_
 repeat (first | (apply wo_po;apply ce_;(repeat (first | exact EvL.nil | apply EvL.cons rfl));exact rfl;exact trivial) | (apply wo_mo;apply bi_ (sz:=7);exact rfl;(repeat (first | exact EvL.nil | apply EvL.cons rfl));exact rfl;(repeat (first | exact List.forall_mem_nil _ | refine List.forall_mem_cons.2 ⟨rfl,?_⟩));omega;exact trivial) | refine bb_ ?_ | (refine wR ?_;try simp only [oS]) | refine ba_ ?_ | refine wM ?_ | refine wA ?_ | refine wE ?_)
 rintro v' L' ⟨kb,rfl,rfl⟩
 repeat (first | (apply wo_mo;apply cf_ (sz:=7) (new:=(([⟨19,0,2,0,0,0,0⟩]:List Mach.In).map inC).flatten);exact rfl;exact rfl;exact rfl;exact rfl;exact (.there .here);exact rfl;exact .inr ⟨_,_,rfl,Rds.all .here⟩;exact fj_;(simp only [cj_];omega);exact trivial))
 rintro v' L' rfl
 refine cn_ (bp_ .here (bg_ (by omega))) ?_
 rintro ⟨a,n,c,rfl,hn,_,hz,hy⟩
 obtain rfl:n=12:=by have:=hn.symm.trans (show _=84 from rfl);omega
 refine cd_ (vec 7 (.slice a 12 c) (([⟨17,0,5,0,0,0,0⟩,⟨17,0,6,0,0,0,1⟩,⟨17,0,7,0,0,0,2⟩,⟨6,0,8,0,0,0,1⟩,⟨6,0,9,0,0,0,2⟩,⟨1,1,1,0,0,0,0⟩,⟨14,0,2,1,0,0,62⟩,⟨15,0,2,2,0,0,62⟩,⟨14,0,3,1,0,0,41⟩,⟨15,0,3,3,0,0,43⟩,⟨15,0,4,1,0,0,23⟩,⟨19,0,2,0,0,0,0⟩]:List Mach.In).map inC).flatten::arr cb 0 [.slice none 0 0,.slice none 0 0]::L) (fun h st=>bm_ st (fun _ z=>z) fun _ z=>bs_ (z)) ?_
 repeat (first | (apply wo_po;apply ce_;(repeat (first | exact EvL.nil | apply EvL.cons rfl));exact rfl;exact trivial) | (apply wo_mo;apply bi_ (sz:=7);exact rfl;(repeat (first | exact EvL.nil | apply EvL.cons rfl));exact rfl;(repeat (first | exact List.forall_mem_nil _ | refine List.forall_mem_cons.2 ⟨rfl,?_⟩));omega;exact trivial) | refine bb_ ?_ | (refine wR ?_;try simp only [oS]) | refine ba_ ?_ | refine wM ?_ | refine wA ?_ | refine wE ?_)
 rintro v' L' ⟨kb,rfl,rfl⟩
 repeat (first | (apply wo_mo;apply cf_ (sz:=7) (new:=(([⟨19,0,2,8,0,0,0⟩]:List Mach.In).map inC).flatten);exact rfl;exact rfl;exact rfl;exact rfl;exact (.there .here);exact rfl;exact .inr ⟨_,_,rfl,Rds.all .here⟩;exact fj_;(simp only [cj_];omega);exact trivial))
 rintro v' L' rfl
 refine cn_ (bp_ .here (bg_ (by omega))) ?_
 rintro ⟨a,n,c,rfl,hn,_,hz,hy⟩
 obtain rfl:n=13:=by have:=hn.symm.trans (show _=91 from rfl);omega
 refine cd_ (vec 7 (.slice a 13 c) (([⟨17,0,5,0,0,0,0⟩,⟨17,0,6,0,0,0,1⟩,⟨17,0,7,0,0,0,2⟩,⟨6,0,8,0,0,0,1⟩,⟨6,0,9,0,0,0,2⟩,⟨1,1,1,0,0,0,0⟩,⟨14,0,2,1,0,0,62⟩,⟨15,0,2,2,0,0,62⟩,⟨14,0,3,1,0,0,41⟩,⟨15,0,3,3,0,0,43⟩,⟨15,0,4,1,0,0,23⟩,⟨19,0,2,0,0,0,0⟩,⟨19,0,2,8,0,0,0⟩]:List Mach.In).map inC).flatten::arr cb 0 [.slice none 0 0,.slice none 0 0]::L) (fun h st=>bm_ st (fun _ z=>z) fun _ z=>bs_ (z)) ?_
 repeat (first | refine bb_ ?_ | (refine wR ?_;try simp only [oS]) | refine ba_ ?_ | refine wM ?_ | refine wA ?_ | refine wF ?_)
 refine bo_ (.cons rfl (.cons rfl (.cons rfl (.cons rfl .nil)))) trivial (jc_ (code:=[⟨17,0,5,0,0,0,0⟩,⟨17,0,6,0,0,0,1⟩,⟨17,0,7,0,0,0,2⟩,⟨6,0,8,0,0,0,1⟩,⟨6,0,9,0,0,0,2⟩,⟨1,1,1,0,0,0,0⟩,⟨14,0,2,1,0,0,62⟩,⟨15,0,2,2,0,0,62⟩,⟨14,0,3,1,0,0,41⟩,⟨15,0,3,3,0,0,43⟩,⟨15,0,4,1,0,0,23⟩,⟨19,0,2,0,0,0,0⟩,⟨19,0,2,8,0,0,0⟩]) (st:=8) (fl:=3) (si:=5) (by omega) .here) ?_
 rintro v1 L1 x1 ⟨rfl,rfl⟩
 refine cn_ (bp_ .here (bg_ (by omega))) ?_
 rintro ⟨a,n,c,rfl,hn,_,hz,hy⟩
 obtain rfl:n=19:=by have:=hn.symm.trans (show _=133 from rfl);omega
 refine cd_ (vec 7 (.slice a 19 c) (([⟨17,0,5,0,0,0,0⟩,⟨17,0,6,0,0,0,1⟩,⟨17,0,7,0,0,0,2⟩,⟨6,0,8,0,0,0,1⟩,⟨6,0,9,0,0,0,2⟩,⟨1,1,1,0,0,0,0⟩,⟨14,0,2,1,0,0,62⟩,⟨15,0,2,2,0,0,62⟩,⟨14,0,3,1,0,0,41⟩,⟨15,0,3,3,0,0,43⟩,⟨15,0,4,1,0,0,23⟩,⟨19,0,2,0,0,0,0⟩,⟨19,0,2,8,0,0,0⟩,⟨14,0,12,5,0,0,23⟩,⟨14,0,13,3,0,0,2⟩,⟨13,0,10,12,13,0,0⟩,⟨13,0,10,10,8,0,0⟩,⟨5,1,11,0,1,10,0⟩,⟨19,0,11,0,0,0,5⟩]:List Mach.In).map inC).flatten::arr cb 0 [.slice none 0 0,.slice none 0 0]::L) (fun h st=>bm_ st (fun _ z=>z) fun _ z=>z) ?_
 repeat (first | (apply wo_po;apply ce_;(repeat (first | exact EvL.nil | apply EvL.cons rfl));exact rfl;exact trivial) | (apply wo_mo;apply bi_ (sz:=7);exact rfl;(repeat (first | exact EvL.nil | apply EvL.cons rfl));exact rfl;(repeat (first | exact List.forall_mem_nil _ | refine List.forall_mem_cons.2 ⟨rfl,?_⟩));omega;exact trivial) | refine bb_ ?_ | (refine wR ?_;try simp only [oS]) | refine ba_ ?_ | refine wM ?_ | refine wA ?_)
 rintro v' L' ⟨kb,rfl,rfl⟩
 repeat (first | (apply wo_mo;apply cf_ (sz:=7) (new:=(([⟨23,0,0,0,0,0,0⟩]:List Mach.In).map inC).flatten);exact rfl;exact rfl;exact rfl;exact rfl;exact (.there .here);exact rfl;exact .inr ⟨_,_,rfl,Rds.all .here⟩;exact fj_;(simp only [cj_];omega);exact trivial))
 rintro v' L' rfl
 refine cn_ (bp_ .here (bg_ (by omega))) ?_
 rintro ⟨a,n,c,rfl,hn,_,hz,hy⟩
 obtain rfl:n=20:=by have:=hn.symm.trans (show _=140 from rfl);omega
 refine cd_ (vec 7 (.slice a 20 c) (([⟨17,0,5,0,0,0,0⟩,⟨17,0,6,0,0,0,1⟩,⟨17,0,7,0,0,0,2⟩,⟨6,0,8,0,0,0,1⟩,⟨6,0,9,0,0,0,2⟩,⟨1,1,1,0,0,0,0⟩,⟨14,0,2,1,0,0,62⟩,⟨15,0,2,2,0,0,62⟩,⟨14,0,3,1,0,0,41⟩,⟨15,0,3,3,0,0,43⟩,⟨15,0,4,1,0,0,23⟩,⟨19,0,2,0,0,0,0⟩,⟨19,0,2,8,0,0,0⟩,⟨14,0,12,5,0,0,23⟩,⟨14,0,13,3,0,0,2⟩,⟨13,0,10,12,13,0,0⟩,⟨13,0,10,10,8,0,0⟩,⟨5,1,11,0,1,10,0⟩,⟨19,0,11,0,0,0,5⟩,⟨23,0,0,0,0,0,0⟩]:List Mach.In).map inC).flatten::arr cb 0 [.slice none 0 0,.slice none 0 0]::L) (fun h st=>bm_ st (fun _ z=>z) fun _ z=>bs_ (z)) ?_
 cases a with
 | none=>have:=hz rfl;omega
 | some ad =>
 obtain ⟨kb0,ko,sp⟩:=ad
 cases hy _ rfl
 repeat (first | (apply wo_po;apply fe_;exact rfl;exact cv 20 (by omega);exact trivial) | (apply wo_po;apply cb_ (r:=ko+84);exact rfl;exact rfl;omega;omega;omega;exact trivial) | (apply wo_pm;apply cq_;exact rfl;exact rfl;exact rfl;exact hr_ (i:=90) .here (show 90<_ from by show 90<140;omega);exact trivial) | refine bb_ ?_ | (refine wR ?_;try simp only [oS]) | refine ba_ ?_ | refine wM ?_ | refine wA ?_ | refine wD ?_ | refine wE ?_)
 refine cd_ (vec 7 (.slice (some ⟨kb0,ko,none⟩) 20 c) (([⟨17,0,5,0,0,0,0⟩,⟨17,0,6,0,0,0,1⟩,⟨17,0,7,0,0,0,2⟩,⟨6,0,8,0,0,0,1⟩,⟨6,0,9,0,0,0,2⟩,⟨1,1,1,0,0,0,0⟩,⟨14,0,2,1,0,0,62⟩,⟨15,0,2,2,0,0,62⟩,⟨14,0,3,1,0,0,41⟩,⟨15,0,3,3,0,0,43⟩,⟨15,0,4,1,0,0,23⟩,⟨19,0,2,0,0,0,0⟩,⟨19,0,2,8,0,0,20⟩,⟨14,0,12,5,0,0,23⟩,⟨14,0,13,3,0,0,2⟩,⟨13,0,10,12,13,0,0⟩,⟨13,0,10,10,8,0,0⟩,⟨5,1,11,0,1,10,0⟩,⟨19,0,11,0,0,0,5⟩,⟨23,0,0,0,0,0,0⟩]:List Mach.In).map inC).flatten::arr cb 0 [.slice none 0 0,.slice none 0 0]::L) (fun h st=>st) ?_
 obtain ⟨a,ha⟩:∃ a,some (⟨kb0,ko,none⟩:Addr)=a:=⟨_,rfl⟩
 rw [ha]
 have hz:a=none→20=0:=fun e=>by rw [← ha] at e;cases e
 have hy:∀ y,a=some y→y=⟨y.block,y.off,none⟩:=fun y e=>by rw [← ha] at e;cases e;rfl
 clear ha
 repeat (first | (apply wo_po;apply ce_;(repeat (first | exact EvL.nil | apply EvL.cons rfl));exact rfl;exact trivial) | (apply wo_mo;apply bi_ (sz:=7);exact rfl;(repeat (first | exact EvL.nil | apply EvL.cons rfl));exact rfl;(repeat (first | exact List.forall_mem_nil _ | refine List.forall_mem_cons.2 ⟨rfl,?_⟩));omega;exact trivial))
 rintro v' L' ⟨kb,rfl,rfl⟩
 repeat (first | (apply wo_mo;apply cf_ (sz:=7) (new:=(([⟨23,0,0,0,0,0,0⟩]:List Mach.In).map inC).flatten);exact rfl;exact rfl;exact rfl;exact rfl;exact (.there .here);exact rfl;exact .inr ⟨_,_,rfl,Rds.all .here⟩;exact fj_;(simp only [cj_];omega);exact trivial))
 rintro v' L' rfl
 refine cn_ (bp_ .here (bg_ (by omega))) ?_
 rintro ⟨a,n,c,rfl,hn,_,hz,hy⟩
 obtain rfl:n=21:=by have:=hn.symm.trans (show _=147 from rfl);omega
 refine cd_ (vec 7 (.slice a 21 c) (([⟨17,0,5,0,0,0,0⟩,⟨17,0,6,0,0,0,1⟩,⟨17,0,7,0,0,0,2⟩,⟨6,0,8,0,0,0,1⟩,⟨6,0,9,0,0,0,2⟩,⟨1,1,1,0,0,0,0⟩,⟨14,0,2,1,0,0,62⟩,⟨15,0,2,2,0,0,62⟩,⟨14,0,3,1,0,0,41⟩,⟨15,0,3,3,0,0,43⟩,⟨15,0,4,1,0,0,23⟩,⟨19,0,2,0,0,0,0⟩,⟨19,0,2,8,0,0,20⟩,⟨14,0,12,5,0,0,23⟩,⟨14,0,13,3,0,0,2⟩,⟨13,0,10,12,13,0,0⟩,⟨13,0,10,10,8,0,0⟩,⟨5,1,11,0,1,10,0⟩,⟨19,0,11,0,0,0,5⟩,⟨23,0,0,0,0,0,0⟩,⟨23,0,0,0,0,0,0⟩]:List Mach.In).map inC).flatten::arr cb 0 [.slice none 0 0,.slice none 0 0]::L) (fun h st=>bm_ st (fun _ z=>z) fun _ z=>bs_ (z)) ?_
 cases a with
 | none=>have:=hz rfl;omega
 | some ad =>
 obtain ⟨kb0,ko,sp⟩:=ad
 cases hy _ rfl
 repeat (first | (apply wo_po;apply fe_;exact rfl;exact cv 21 (by omega);exact trivial) | (apply wo_po;apply cb_ (r:=ko+77);exact rfl;exact rfl;omega;omega;omega;exact trivial) | (apply wo_pm;apply cq_;exact rfl;exact rfl;exact rfl;exact hr_ (i:=83) .here (show 83<_ from by show 83<147;omega);exact trivial) | refine bb_ ?_ | (refine wR ?_;try simp only [oS]) | refine ba_ ?_ | refine wM ?_ | refine wA ?_ | refine wD ?_ | refine wE ?_ | refine wF ?_ | refine bk_ ?_)
 refine cd_ (vec 7 (.slice (some ⟨kb0,ko,none⟩) 21 c) (([⟨17,0,5,0,0,0,0⟩,⟨17,0,6,0,0,0,1⟩,⟨17,0,7,0,0,0,2⟩,⟨6,0,8,0,0,0,1⟩,⟨6,0,9,0,0,0,2⟩,⟨1,1,1,0,0,0,0⟩,⟨14,0,2,1,0,0,62⟩,⟨15,0,2,2,0,0,62⟩,⟨14,0,3,1,0,0,41⟩,⟨15,0,3,3,0,0,43⟩,⟨15,0,4,1,0,0,23⟩,⟨19,0,2,0,0,0,21⟩,⟨19,0,2,8,0,0,20⟩,⟨14,0,12,5,0,0,23⟩,⟨14,0,13,3,0,0,2⟩,⟨13,0,10,12,13,0,0⟩,⟨13,0,10,10,8,0,0⟩,⟨5,1,11,0,1,10,0⟩,⟨19,0,11,0,0,0,5⟩,⟨23,0,0,0,0,0,0⟩,⟨23,0,0,0,0,0,0⟩]:List Mach.In).map inC).flatten::arr cb 0 [.slice none 0 0,.slice none 0 0]::L) (fun h st=>st) ?_
 obtain ⟨a,ha⟩:∃ a,some (⟨kb0,ko,none⟩:Addr)=a:=⟨_,rfl⟩
 rw [ha]
 have hz:a=none→21=0:=fun e=>by rw [← ha] at e;cases e
 have hy:∀ y,a=some y→y=⟨y.block,y.off,none⟩:=fun y e=>by rw [← ha] at e;cases e;rfl
 clear ha
 repeat (first | (apply wo_po;apply ce_;(repeat (first | exact EvL.nil | apply EvL.cons rfl));exact rfl;exact trivial) | (apply wo_mo;apply bi_ (sz:=7);exact rfl;(repeat (first | exact EvL.nil | apply EvL.cons rfl));exact rfl;(repeat (first | exact List.forall_mem_nil _ | refine List.forall_mem_cons.2 ⟨rfl,?_⟩));omega;exact trivial))
 rintro v' L' ⟨kb,rfl,rfl⟩
 repeat (first | (apply wo_mo;apply cf_ (sz:=7) (new:=(([⟨8,0,3,3,8,0,0⟩]:List Mach.In).map inC).flatten);exact rfl;exact rfl;exact rfl;exact rfl;exact (.there .here);exact rfl;exact .inr ⟨_,_,rfl,Rds.all .here⟩;exact fj_;(simp only [cj_];omega);exact trivial))
 rintro v' L' rfl
 refine cn_ (bp_ .here (bg_ (by omega))) ?_
 rintro ⟨a,n,c,rfl,hn,_,hz,hy⟩
 obtain rfl:n=22:=by have:=hn.symm.trans (show _=154 from rfl);omega
 refine cd_ (vec 7 (.slice a 22 c) (([⟨17,0,5,0,0,0,0⟩,⟨17,0,6,0,0,0,1⟩,⟨17,0,7,0,0,0,2⟩,⟨6,0,8,0,0,0,1⟩,⟨6,0,9,0,0,0,2⟩,⟨1,1,1,0,0,0,0⟩,⟨14,0,2,1,0,0,62⟩,⟨15,0,2,2,0,0,62⟩,⟨14,0,3,1,0,0,41⟩,⟨15,0,3,3,0,0,43⟩,⟨15,0,4,1,0,0,23⟩,⟨19,0,2,0,0,0,21⟩,⟨19,0,2,8,0,0,20⟩,⟨14,0,12,5,0,0,23⟩,⟨14,0,13,3,0,0,2⟩,⟨13,0,10,12,13,0,0⟩,⟨13,0,10,10,8,0,0⟩,⟨5,1,11,0,1,10,0⟩,⟨19,0,11,0,0,0,5⟩,⟨23,0,0,0,0,0,0⟩,⟨23,0,0,0,0,0,0⟩,⟨8,0,3,3,8,0,0⟩]:List Mach.In).map inC).flatten::arr cb 0 [.slice none 0 0,.slice none 0 0]::L) (fun h st=>bm_ st (fun _ z=>z) fun _ z=>bs_ (z)) ?_
 repeat (first | (apply wo_po;apply ce_;(repeat (first | exact EvL.nil | apply EvL.cons rfl));exact rfl;exact trivial) | (apply wo_mo;apply bi_ (sz:=7);exact rfl;(repeat (first | exact EvL.nil | apply EvL.cons rfl));exact rfl;(repeat (first | exact List.forall_mem_nil _ | refine List.forall_mem_cons.2 ⟨rfl,?_⟩));omega;exact trivial) | refine bb_ ?_ | (refine wR ?_;try simp only [oS]) | refine ba_ ?_ | refine wM ?_ | refine wA ?_ | refine wE ?_)
 rintro v' L' ⟨kb,rfl,rfl⟩
 repeat (first | (apply wo_mo;apply cf_ (sz:=7) (new:=(([⟨19,0,3,6,0,0,0⟩]:List Mach.In).map inC).flatten);exact rfl;exact rfl;exact rfl;exact rfl;exact (.there .here);exact rfl;exact .inr ⟨_,_,rfl,Rds.all .here⟩;exact fj_;(simp only [cj_];omega);exact trivial))
 rintro v' L' rfl
 refine cn_ (bp_ .here (bg_ (by omega))) ?_
 rintro ⟨a,n,c,rfl,hn,_,hz,hy⟩
 obtain rfl:n=23:=by have:=hn.symm.trans (show _=161 from rfl);omega
 refine cd_ (vec 7 (.slice a 23 c) (([⟨17,0,5,0,0,0,0⟩,⟨17,0,6,0,0,0,1⟩,⟨17,0,7,0,0,0,2⟩,⟨6,0,8,0,0,0,1⟩,⟨6,0,9,0,0,0,2⟩,⟨1,1,1,0,0,0,0⟩,⟨14,0,2,1,0,0,62⟩,⟨15,0,2,2,0,0,62⟩,⟨14,0,3,1,0,0,41⟩,⟨15,0,3,3,0,0,43⟩,⟨15,0,4,1,0,0,23⟩,⟨19,0,2,0,0,0,21⟩,⟨19,0,2,8,0,0,20⟩,⟨14,0,12,5,0,0,23⟩,⟨14,0,13,3,0,0,2⟩,⟨13,0,10,12,13,0,0⟩,⟨13,0,10,10,8,0,0⟩,⟨5,1,11,0,1,10,0⟩,⟨19,0,11,0,0,0,5⟩,⟨23,0,0,0,0,0,0⟩,⟨23,0,0,0,0,0,0⟩,⟨8,0,3,3,8,0,0⟩,⟨19,0,3,6,0,0,0⟩]:List Mach.In).map inC).flatten::arr cb 0 [.slice none 0 0,.slice none 0 0]::L) (fun h st=>bm_ st (fun _ z=>z) fun _ z=>bs_ (z)) ?_
 repeat (first | refine bb_ ?_ | (refine wR ?_;try simp only [oS]) | refine ba_ ?_ | refine wM ?_ | refine wA ?_)
 refine bo_ (.cons rfl (.cons rfl (.cons rfl (.cons rfl .nil)))) trivial (jc_ (code:=[⟨17,0,5,0,0,0,0⟩,⟨17,0,6,0,0,0,1⟩,⟨17,0,7,0,0,0,2⟩,⟨6,0,8,0,0,0,1⟩,⟨6,0,9,0,0,0,2⟩,⟨1,1,1,0,0,0,0⟩,⟨14,0,2,1,0,0,62⟩,⟨15,0,2,2,0,0,62⟩,⟨14,0,3,1,0,0,41⟩,⟨15,0,3,3,0,0,43⟩,⟨15,0,4,1,0,0,23⟩,⟨19,0,2,0,0,0,21⟩,⟨19,0,2,8,0,0,20⟩,⟨14,0,12,5,0,0,23⟩,⟨14,0,13,3,0,0,2⟩,⟨13,0,10,12,13,0,0⟩,⟨13,0,10,10,8,0,0⟩,⟨5,1,11,0,1,10,0⟩,⟨19,0,11,0,0,0,5⟩,⟨23,0,0,0,0,0,0⟩,⟨23,0,0,0,0,0,0⟩,⟨8,0,3,3,8,0,0⟩,⟨19,0,3,6,0,0,0⟩]) (st:=0) (fl:=3) (si:=0) (by omega) .here) ?_
 rintro v1 L1 x1 ⟨rfl,rfl⟩
 refine cn_ (bp_ .here (bg_ (by omega))) ?_
 rintro ⟨a,n,c,rfl,hn,_,hz,hy⟩
 obtain rfl:n=29:=by have:=hn.symm.trans (show _=203 from rfl);omega
 refine cd_ (vec 7 (.slice a 29 c) (([⟨17,0,5,0,0,0,0⟩,⟨17,0,6,0,0,0,1⟩,⟨17,0,7,0,0,0,2⟩,⟨6,0,8,0,0,0,1⟩,⟨6,0,9,0,0,0,2⟩,⟨1,1,1,0,0,0,0⟩,⟨14,0,2,1,0,0,62⟩,⟨15,0,2,2,0,0,62⟩,⟨14,0,3,1,0,0,41⟩,⟨15,0,3,3,0,0,43⟩,⟨15,0,4,1,0,0,23⟩,⟨19,0,2,0,0,0,21⟩,⟨19,0,2,8,0,0,20⟩,⟨14,0,12,5,0,0,23⟩,⟨14,0,13,3,0,0,2⟩,⟨13,0,10,12,13,0,0⟩,⟨13,0,10,10,8,0,0⟩,⟨5,1,11,0,1,10,0⟩,⟨19,0,11,0,0,0,5⟩,⟨23,0,0,0,0,0,0⟩,⟨23,0,0,0,0,0,0⟩,⟨8,0,3,3,8,0,0⟩,⟨19,0,3,6,0,0,0⟩,⟨14,0,12,0,0,0,23⟩,⟨14,0,13,3,0,0,2⟩,⟨13,0,10,12,13,0,0⟩,⟨13,0,10,10,0,0,0⟩,⟨5,1,11,0,1,10,0⟩,⟨19,0,11,0,0,0,5⟩]:List Mach.In).map inC).flatten::arr cb 0 [.slice none 0 0,.slice none 0 0]::L) (fun h st=>bm_ st (fun _ z=>z) fun _ z=>z) ?_
 repeat (first | (apply wo_po;apply ce_;(repeat (first | exact EvL.nil | apply EvL.cons rfl));exact rfl;exact trivial) | (apply wo_mo;apply bi_ (sz:=7);exact rfl;(repeat (first | exact EvL.nil | apply EvL.cons rfl));exact rfl;(repeat (first | exact List.forall_mem_nil _ | refine List.forall_mem_cons.2 ⟨rfl,?_⟩));omega;exact trivial) | refine bb_ ?_ | (refine wR ?_;try simp only [oS]) | refine ba_ ?_ | refine wM ?_ | refine wA ?_)
 rintro v' L' ⟨kb,rfl,rfl⟩
 repeat (first | (apply wo_mo;apply cf_ (sz:=7) (new:=(([⟨23,0,0,0,0,0,0⟩]:List Mach.In).map inC).flatten);exact rfl;exact rfl;exact rfl;exact rfl;exact (.there .here);exact rfl;exact .inr ⟨_,_,rfl,Rds.all .here⟩;exact fj_;(simp only [cj_];omega);exact trivial))
 rintro v' L' rfl
 refine cn_ (bp_ .here (bg_ (by omega))) ?_
 rintro ⟨a,n,c,rfl,hn,_,hz,hy⟩
 obtain rfl:n=30:=by have:=hn.symm.trans (show _=210 from rfl);omega
 refine cd_ (vec 7 (.slice a 30 c) (([⟨17,0,5,0,0,0,0⟩,⟨17,0,6,0,0,0,1⟩,⟨17,0,7,0,0,0,2⟩,⟨6,0,8,0,0,0,1⟩,⟨6,0,9,0,0,0,2⟩,⟨1,1,1,0,0,0,0⟩,⟨14,0,2,1,0,0,62⟩,⟨15,0,2,2,0,0,62⟩,⟨14,0,3,1,0,0,41⟩,⟨15,0,3,3,0,0,43⟩,⟨15,0,4,1,0,0,23⟩,⟨19,0,2,0,0,0,21⟩,⟨19,0,2,8,0,0,20⟩,⟨14,0,12,5,0,0,23⟩,⟨14,0,13,3,0,0,2⟩,⟨13,0,10,12,13,0,0⟩,⟨13,0,10,10,8,0,0⟩,⟨5,1,11,0,1,10,0⟩,⟨19,0,11,0,0,0,5⟩,⟨23,0,0,0,0,0,0⟩,⟨23,0,0,0,0,0,0⟩,⟨8,0,3,3,8,0,0⟩,⟨19,0,3,6,0,0,0⟩,⟨14,0,12,0,0,0,23⟩,⟨14,0,13,3,0,0,2⟩,⟨13,0,10,12,13,0,0⟩,⟨13,0,10,10,0,0,0⟩,⟨5,1,11,0,1,10,0⟩,⟨19,0,11,0,0,0,5⟩,⟨23,0,0,0,0,0,0⟩]:List Mach.In).map inC).flatten::arr cb 0 [.slice none 0 0,.slice none 0 0]::L) (fun h st=>bm_ st (fun _ z=>z) fun _ z=>bs_ (z)) ?_
 cases a with
 | none=>have:=hz rfl;omega
 | some ad =>
 obtain ⟨kb0,ko,sp⟩:=ad
 cases hy _ rfl
 repeat (first | (apply wo_po;apply fe_;exact rfl;exact cv 30 (by omega);exact trivial) | (apply wo_po;apply cb_ (r:=ko+154);exact rfl;exact rfl;omega;omega;omega;exact trivial) | (apply wo_pm;apply cq_;exact rfl;exact rfl;exact rfl;exact hr_ (i:=160) .here (show 160<_ from by show 160<210;omega);exact trivial) | refine bb_ ?_ | (refine wR ?_;try simp only [oS]) | refine ba_ ?_ | refine wM ?_ | refine wA ?_ | refine wD ?_ | refine wE ?_)
 refine cd_ (vec 7 (.slice (some ⟨kb0,ko,none⟩) 30 c) (([⟨17,0,5,0,0,0,0⟩,⟨17,0,6,0,0,0,1⟩,⟨17,0,7,0,0,0,2⟩,⟨6,0,8,0,0,0,1⟩,⟨6,0,9,0,0,0,2⟩,⟨1,1,1,0,0,0,0⟩,⟨14,0,2,1,0,0,62⟩,⟨15,0,2,2,0,0,62⟩,⟨14,0,3,1,0,0,41⟩,⟨15,0,3,3,0,0,43⟩,⟨15,0,4,1,0,0,23⟩,⟨19,0,2,0,0,0,21⟩,⟨19,0,2,8,0,0,20⟩,⟨14,0,12,5,0,0,23⟩,⟨14,0,13,3,0,0,2⟩,⟨13,0,10,12,13,0,0⟩,⟨13,0,10,10,8,0,0⟩,⟨5,1,11,0,1,10,0⟩,⟨19,0,11,0,0,0,5⟩,⟨23,0,0,0,0,0,0⟩,⟨23,0,0,0,0,0,0⟩,⟨8,0,3,3,8,0,0⟩,⟨19,0,3,6,0,0,30⟩,⟨14,0,12,0,0,0,23⟩,⟨14,0,13,3,0,0,2⟩,⟨13,0,10,12,13,0,0⟩,⟨13,0,10,10,0,0,0⟩,⟨5,1,11,0,1,10,0⟩,⟨19,0,11,0,0,0,5⟩,⟨23,0,0,0,0,0,0⟩]:List Mach.In).map inC).flatten::arr cb 0 [.slice none 0 0,.slice none 0 0]::L) (fun h st=>st) ?_
 obtain ⟨a,ha⟩:∃ a,some (⟨kb0,ko,none⟩:Addr)=a:=⟨_,rfl⟩
 rw [ha]
 have hz:a=none→30=0:=fun e=>by rw [← ha] at e;cases e
 have hy:∀ y,a=some y→y=⟨y.block,y.off,none⟩:=fun y e=>by rw [← ha] at e;cases e;rfl
 clear ha
 skip
 refine bo_ (.cons rfl (.cons rfl (.cons rfl (.cons rfl .nil)))) trivial (jc_ (code:=[⟨17,0,5,0,0,0,0⟩,⟨17,0,6,0,0,0,1⟩,⟨17,0,7,0,0,0,2⟩,⟨6,0,8,0,0,0,1⟩,⟨6,0,9,0,0,0,2⟩,⟨1,1,1,0,0,0,0⟩,⟨14,0,2,1,0,0,62⟩,⟨15,0,2,2,0,0,62⟩,⟨14,0,3,1,0,0,41⟩,⟨15,0,3,3,0,0,43⟩,⟨15,0,4,1,0,0,23⟩,⟨19,0,2,0,0,0,21⟩,⟨19,0,2,8,0,0,20⟩,⟨14,0,12,5,0,0,23⟩,⟨14,0,13,3,0,0,2⟩,⟨13,0,10,12,13,0,0⟩,⟨13,0,10,10,8,0,0⟩,⟨5,1,11,0,1,10,0⟩,⟨19,0,11,0,0,0,5⟩,⟨23,0,0,0,0,0,0⟩,⟨23,0,0,0,0,0,0⟩,⟨8,0,3,3,8,0,0⟩,⟨19,0,3,6,0,0,30⟩,⟨14,0,12,0,0,0,23⟩,⟨14,0,13,3,0,0,2⟩,⟨13,0,10,12,13,0,0⟩,⟨13,0,10,10,0,0,0⟩,⟨5,1,11,0,1,10,0⟩,⟨19,0,11,0,0,0,5⟩,⟨23,0,0,0,0,0,0⟩]) (st:=8) (fl:=3) (si:=5) (by omega) .here) ?_
 rintro v1 L1 x1 ⟨rfl,rfl⟩
 refine cn_ (bp_ .here (bg_ (by omega))) ?_
 rintro ⟨a,n,c,rfl,hn,_,hz,hy⟩
 obtain rfl:n=36:=by have:=hn.symm.trans (show _=252 from rfl);omega
 refine cd_ (vec 7 (.slice a 36 c) ((([⟨17,0,5,0,0,0,0⟩,⟨17,0,6,0,0,0,1⟩,⟨17,0,7,0,0,0,2⟩,⟨6,0,8,0,0,0,1⟩,⟨6,0,9,0,0,0,2⟩,⟨1,1,1,0,0,0,0⟩,⟨14,0,2,1,0,0,62⟩,⟨15,0,2,2,0,0,62⟩,⟨14,0,3,1,0,0,41⟩,⟨15,0,3,3,0,0,43⟩,⟨15,0,4,1,0,0,23⟩,⟨19,0,2,0,0,0,21⟩,⟨19,0,2,8,0,0,20⟩,⟨14,0,12,5,0,0,23⟩,⟨14,0,13,3,0,0,2⟩,⟨13,0,10,12,13,0,0⟩,⟨13,0,10,10,8,0,0⟩,⟨5,1,11,0,1,10,0⟩,⟨19,0,11,0,0,0,5⟩,⟨23,0,0,0,0,0,0⟩,⟨23,0,0,0,0,0,0⟩,⟨8,0,3,3,8,0,0⟩,⟨19,0,3,6,0,0,30⟩,⟨14,0,12,0,0,0,23⟩,⟨14,0,13,3,0,0,2⟩,⟨13,0,10,12,13,0,0⟩,⟨13,0,10,10,0,0,0⟩,⟨5,1,11,0,1,10,0⟩,⟨19,0,11,0,0,0,5⟩,⟨23,0,0,0,0,0,0⟩]++[⟨14,0,12,5,0,0,23⟩,⟨14,0,13,3,0,0,2⟩,⟨13,0,10,12,13,0,0⟩,⟨13,0,10,10,8,0,0⟩,⟨5,1,11,0,1,10,0⟩,⟨19,0,11,0,0,0,5⟩]):List Mach.In).map inC).flatten::arr cb 0 [.slice none 0 0,.slice none 0 0]::L) (fun h st=>bm_ st (fun _ z=>z) fun _ z=>z) ?_
 repeat (first | (apply wo_mo;apply bi_ (sz:=1) (vs:=[Go.PB.num now,Go.PB.num fails,Go.PB.num wait]);exact rfl;(repeat (first | exact EvL.nil | apply EvL.cons rfl));exact rfl;(repeat (first | exact List.forall_mem_nil _ | refine List.forall_mem_cons.2 ⟨rfl,?_⟩));omega;exact trivial) | refine wM ?_)
 rintro v' L' ⟨db,rfl,rfl⟩
 repeat (first | (apply wo_po;apply ce_;(repeat (first | exact EvL.nil | apply EvL.cons rfl));exact rfl;exact trivial) | (apply wo_pm;apply bw_ (b:=cb) (c:=0) (k:=0) (a:=0) (vs:=[.slice none 0 0,.slice none 0 0]);exact rfl;exact rfl;exact rfl;(intro w hw;simp [Value.cells] at hw;rcases hw with rfl | rfl <;> rfl);exact rfl;exact Nat.le_refl 2;exact (.there (.there .here));exact trivial) | refine ba_ ?_ | refine bn_ ?_)
 refine cp_ (rs:=[.cell 8 103]) Try.func66 Try.results66 hQ (.inl rfl) (.cons (.cell (vs:=[.slice a 36 c,.slice (some ⟨db,0,none⟩) 3 3]) rfl rfl (Rds.all (.there (.there .here)))) .nil) ?_
 exact ⟨_,_,_,rfl,rfl,fun h st=>yr_ (cl:=(Mach.gtellbCl now fails wait)) rfl rfl (Ent.star (.take (.there .here) (.take .here (.drop .refl))) st)⟩
end
end
end Go.Proofs.Ytnnpdmhmpgmpnaa
namespace Go.Proofs.Ytnnpdmhmpgmpnaa
open Go Go.PB
attribute [local irreducible] Mo Bin Eql Tr Wo Ap
section
theorem star_pick {c:HProp} {F:List HProp}:∀ {M:List HProp} {i:Nat} {h:Hp},M[i]?=some c→Star (M++F) h→∃ R,Star (c::R) h
 | [],i,h,hi,s=>by simp at hi
 | d::M,0,h,hi,s=>by cases hi;exact ⟨_,s⟩
 | d::M,i+1,h,hi,s=>by
  obtain ⟨h1,h2,sp,hd,hr⟩:=s
  obtain ⟨R,hR⟩:=star_pick (M:=M) (i:=i) hi hr
  refine ⟨d::R,?_⟩
  exact cx_ ⟨h1,h2,sp,hd,hR⟩
end
section
abbrev CD:=(Option Addr × Nat) × Nat × (Option Addr × Nat) × Mach.Cl
def cdV (y:CD):List Value:=[.slice y.1.1 y.2.1 y.1.2,.slice y.2.2.1.1 y.2.2.2.data.length y.2.2.1.2]
def cdK (y:CD):HProp:=clC (.slice y.1.1 y.2.1 y.1.2) (.slice y.2.2.1.1 y.2.2.2.data.length y.2.2.1.2) y.2.2.2
def cwD (a:Option Addr) (c:Nat) (ys:List CD):CW:=⟨a,c,fun i=>match ys[i]? with | some y=>y.1 | none=>(none,0),fun i=>match ys[i]? with | some y=>y.2.2.1 | none=>(none,0)⟩
theorem bkd {a:Option Addr} {n c:Nat} {ys:List CD} {F:List HProp} {h:Hp} (s:Star (vec 2 (.slice a n c) (ys.map cdV).flatten::all (ys.map cdK)::F) h):codeC (cwD a c ys) (ys.map (·.2.2.2)) h:=by
 intro i cl hi
 rw [List.getElem?_map,Option.map_eq_some_iff] at hi
 obtain ⟨y,hy,rfl⟩:=hi
 obtain ⟨a',n',c',e,hn,_,hz,hya⟩:=bp_ (L:=vec 2 (.slice a n c) (ys.map cdV).flatten::all (ys.map cdK)::F) .here (bg_ (by omega)) h s
 cases e
 have hlen:(ys.map cdV).flatten.length=ys.length*2:=gy_ (k:=2) (fun _=>rfl) ys
 have hil:=(List.getElem?_eq_some_iff.1 hy).1
 cases a with
 | none=>have:=hz rfl;omega
 | some ad =>
  obtain ⟨cb,co,sp⟩:=ad
  cases hya _ rfl
  have key:∀ j v,(cdV y)[j]?=some v→j<2→h.can ⟨cb,co+2*i+j,none⟩ v:=fun j v hj hj2=>by
   have:=(df_ (i:=2*i+j) (v:=v) (L:=vec 2 (.slice (some ⟨cb,co,none⟩) n c) (ys.map cdV).flatten::all (ys.map cdK)::F) .here (by rw [kh_ (k:=2) (fun _=>rfl) ys i j y hy hj2];exact hj)) h s
   rwa [← Nat.add_assoc] at this
  obtain ⟨R,s2⟩:=star_pick (M:=ys.map cdK) (i:=i) (c:=cdK y) (by rw [List.getElem?_map,hy];rfl) (ci_ (cx_ s))
  have s3:Star (vec 7 (.slice y.1.1 y.2.1 y.1.2) (y.2.2.2.code.map inC).flatten::vec 1 (.slice y.2.2.1.1 y.2.2.2.data.length y.2.2.1.2) (y.2.2.2.data.map num)::R) h:=ci_ (M:=[_,_]) s2
  obtain ⟨ya,yn,yc,e,hn7,_,hz7,hy7⟩:=bp_ (L:=vec 7 (.slice y.1.1 y.2.1 y.1.2) (y.2.2.2.code.map inC).flatten::vec 1 (.slice y.2.2.1.1 y.2.2.2.data.length y.2.2.1.2) (y.2.2.2.data.map num)::R) .here (bg_ (by omega)) h s3
  obtain ⟨da,dn,dc,e2,hn1,_,hz1,hy1⟩:=bp_ (L:=vec 7 (.slice y.1.1 y.2.1 y.1.2) (y.2.2.2.code.map inC).flatten::vec 1 (.slice y.2.2.1.1 y.2.2.2.data.length y.2.2.1.2) (y.2.2.2.data.map num)::R) (.there .here) (bg_ (by omega)) h s3
  simp only [Value.slice.injEq] at e e2
  obtain ⟨e1,_,e3⟩:=e
  obtain ⟨d1,_,d3⟩:=e2
  have h7:(y.2.2.2.code.map inC).flatten.length=y.2.2.2.code.length*7:=gy_ (k:=7) (fun _=>rfl) _
  have hm:y.2.1=y.2.2.2.code.length:=by omega
  refine ⟨cb,co,rfl,?_,?_,fun j z hz'=>?_,fun j v hv=>?_⟩
  ·have:=key 0 _ rfl (by omega)
   simp only [cwD,hy]
   rw [← hm];exact this
  ·have:=key 1 _ rfl (by omega)
   simp only [cwD,hy]
   exact this
  ·have hjl:=(List.getElem?_eq_some_iff.1 hz').1
   cases ya with
   | none=>have:=hz7 rfl;omega
   | some w =>
    obtain ⟨kb,ko,sp⟩:=w
    cases hy7 _ rfl
    refine ⟨kb,ko,by simp only [cwD,hy];exact e1,fun m v hmv=>?_⟩
    have hm7:m<7:=(List.getElem?_eq_some_iff.1 hmv).1
    rw [e1] at s3
    have:=(df_ (i:=7*j+m) (v:=v) (L:=vec 7 (.slice (some ⟨kb,ko,none⟩) y.2.1 y.1.2) (y.2.2.2.code.map inC).flatten::vec 1 (.slice y.2.2.1.1 y.2.2.2.data.length y.2.2.1.2) (y.2.2.2.data.map num)::R) .here (by rw [kh_ (k:=7) (fun _=>rfl) _ _ _ _ hz' hm7];exact hmv)) h s3
    rwa [← Nat.add_assoc] at this
  ·have hjl:=(List.getElem?_eq_some_iff.1 hv).1
   cases da with
   | none=>have:=hz1 rfl;simp at hn1;omega
   | some w =>
    obtain ⟨kb,ko,sp⟩:=w
    cases hy1 _ rfl
    refine ⟨kb,ko,by simp only [cwD,hy];exact d1,?_⟩
    rw [d1] at s3
    exact (df_ (i:=j) (v:=num v) (L:=vec 7 (.slice y.1.1 y.2.1 y.1.2) (y.2.2.2.code.map inC).flatten::vec 1 (.slice (some ⟨kb,ko,none⟩) y.2.2.2.data.length y.2.2.1.2) (y.2.2.2.data.map num)::R) (.there .here) (by rw [List.getElem?_map,hv];rfl)) h s3
end
end Go.Proofs.Ytnnpdmhmpgmpnaa
namespace Go.Proofs.Ytnnpdmhmpgmpnaa
open Go Go.PB
attribute [local irreducible] Mo Bin Eql Tr Wo Ap Wle
section
section
variable {B:Hand} [Lets B] {gv:Value} {A:Acc B gv} {φ:Nat→Nat} {r b p limit fails wait n:Nat} {L F:List HProp} {x:B.X}
theorem sr_:Tr Try.prog B 65 [.int .u64 (n:Nat)] L x fun v L' x'=>v=.int .u64 ((n%1099511627777:Nat):Int)∧L'=L∧x'=x:=by
 have r1:(n:Int).tmod 1099511627777=((n%1099511627777:Nat):Int):=by rw [Int.tmod_eq_emod_of_nonneg (by omega)];omega
 refine bd_ Try.func65 rfl Try.ntmps65 (by simp) fun um Q _ hQ=>?_
 simp only [argE,Nat.zero_add,Nat.reduceAdd]
 repeat (first | (apply wo_po;apply bu_;exact rfl;exact rfl;apply wt_;omega;exact r1;exact trivial) | refine bb_ ?_ | (refine wR ?_;try simp only [oS]) | refine ba_ ?_ | refine wM ?_ | refine wA ?_ | refine bn_ ?_)
 (first | refine or1 Try.func65 Try.results65 hQ rfl ?_ | refine on1 Try.func65 Try.results65 hQ rfl ?_)
 exact ⟨rfl,rfl,rfl⟩
theorem bjr (R:GaugeAt A r limit) (RB:BreakerAt (ji_ A φ) b fails wait) {kind:Int} {good:Bool} {s:A.S} {Q:List Nat→A.S→Prop} (hs:ze_ A φ limit fails wait kind (n%1099511627777) good s Q) (hh:Has L (A.C s) F) (hp0:Rd L p 0 (.pointer (some ⟨r,0,none⟩))) (hp1:Rd L p (0+1) (.pointer (some ⟨b,0,none⟩))) :
  Tr Try.prog B 35 [.pointer (some ⟨p,0,none⟩),gv,.agg #[.int .i64 kind,.int .u64 (n:Nat),.bool good]] L (A.x s) fun w L' x'=>∃ told s',Q told s'∧L'=vec 1 w (told.map Go.PB.num)::A.C s'::F∧x'=A.x s':=by
 refine Tr.post (R:=fun w L' x'=>∃ told s',Q told s'∧x'=A.x s'∧∀ h,Star L' h→Star (vec 1 w (told.map Go.PB.num)::A.C s'::F) h) ?_
  (by rintro v L' x' ⟨told,s',h1,rfl,hs⟩;exact ⟨_,⟨told,s',h1,rfl,rfl⟩,hs⟩)
 have hn:n%1099511627777≤1099511627776:=by omega
 unfold ze_ at hs
 refine bd_ Try.func35 rfl Try.ntmps35 (by simp) fun um Q _ hQ=>?_
 simp only [argE,Nat.zero_add,Nat.reduceAdd]
 repeat (first | (apply wo_mo;apply ct_;exact rfl;exact trivial) | refine bb_ ?_ | (refine wR ?_;try simp only [oS]))
 rintro v' L' ⟨db,rfl,rfl⟩
 refine ft_ (arr db 0 [.int .i64 kind,.int .u64 (n:Nat),.bool good]::L) .refl ?_
 have q0:Rd (arr db 0 [.int .i64 kind,.int .u64 (n:Nat),.bool good]::L) p 0 (.pointer (some ⟨r,0,none⟩)):=.there hp0
 have q1:Rd (arr db 0 [.int .i64 kind,.int .u64 (n:Nat),.bool good]::L) p (0+1) (.pointer (some ⟨b,0,none⟩)):=.there hp1
 by_cases k1:kind=1
 ·subst k1
  rw [if_pos rfl] at hs
  repeat (first | (apply wo_po;apply bc_;exact rfl;(first | exact q0 | exact q1);exact gY) | refine weqlT ?_ | refine bb_ ?_ | (refine wR ?_;try simp only [oS]) | refine ba_ ?_ | refine wM ?_ | refine wA ?_ | refine wN ?_ | refine wD ?_ | refine wL ?_ | refine wT ?_ | refine bf_ ?_)
  refine bo_ (.cons rfl (.cons rfl .nil)) trivial (bjv R hs (.there hh)) ?_
  rintro v1 L1 x1 ⟨q,s',h1,rfl,rfl,rfl⟩
  repeat (first | (refine wR ?_;try simp only [oS]) | refine ba_ ?_ | refine wM ?_ | refine wA ?_ | (apply wo_po;apply cr_;exact rfl;exact rfl;exact gY))
  refine bo_ (.cons rfl .nil) trivial bxc ?_
  rintro v1 L1 x1 ⟨rfl,rfl,rfl⟩
  repeat (first | (apply wo_mo;apply bi_ (sz:=1) (vs:=[Go.PB.num (yes q)]);exact rfl;(repeat (first | exact EvL.nil | apply EvL.cons rfl));exact rfl;(repeat (first | exact List.forall_mem_nil _ | refine List.forall_mem_cons.2 ⟨rfl,?_⟩));omega;exact trivial))
  rintro v' L' ⟨vb,rfl,rfl⟩
  repeat (first | refine wneqF ?_ | refine bb_ ?_ | (refine wR ?_;try simp only [oS]) | refine ba_ ?_ | refine wM ?_ | refine wA ?_ | refine wF ?_ | refine bn_ ?_ | refine bk_ ?_)
  (first | refine or1 Try.func35 Try.results35 hQ rfl ?_ | refine on1 Try.func35 Try.results35 hQ rfl ?_)
  refine ⟨[yes q],s',h1,rfl,fun h st=>?_⟩
  exact gu_ (n:=1) rfl (Ent.star (.take .here (.take .here (.drop .refl))) st)
 rw [if_neg k1] at hs
 by_cases k2:kind=2
 ·subst k2
  rw [if_pos rfl] at hs
  repeat (first | (apply wo_po;apply bc_;exact rfl;(first | exact q0 | exact q1);exact gY) | refine weqlT ?_ | refine weqlF ?_ | refine bb_ ?_ | (refine wR ?_;try simp only [oS]) | refine ba_ ?_ | refine wM ?_ | refine wA ?_ | refine wN ?_ | refine wD ?_ | refine wL ?_ | refine wT ?_ | refine wF ?_ | refine bf_ ?_)
  refine bo_ (.cons rfl (.cons rfl .nil)) trivial (ccg R hs (.there hh)) ?_
  rintro v1 L1 x1 ⟨q,s',⟨hq,h1⟩,rfl,rfl,rfl⟩
  repeat (first | (apply wo_mo;apply bi_ (sz:=1) (vs:=[Go.PB.num q]);exact rfl;(repeat (first | exact EvL.nil | apply EvL.cons rfl));exact rfl;(repeat (first | exact List.forall_mem_nil _ | refine List.forall_mem_cons.2 ⟨rfl,?_⟩));omega;exact trivial) | (apply wo_po;apply fe_;exact rfl;(first | exact hg_ (by omega) (by omega) | exact wrap_u64 (by omega) (by omega));exact gY))
  rintro v' L' ⟨vb,rfl,rfl⟩
  repeat (first | refine ba_ ?_ | refine wA ?_ | refine bn_ ?_)
  (first | refine or1 Try.func35 Try.results35 hQ rfl ?_ | refine on1 Try.func35 Try.results35 hQ rfl ?_)
  refine ⟨[q],s',h1,rfl,fun h st=>?_⟩
  exact gu_ (n:=1) rfl (Ent.star (.take .here (.take .here (.drop .refl))) st)
 rw [if_neg k2] at hs
 by_cases k4:kind=4
 ·subst k4
  rw [if_pos rfl] at hs
  repeat (first | refine weqlT ?_ | refine weqlF ?_ | refine bb_ ?_ | (refine wR ?_;try simp only [oS]) | refine ba_ ?_ | refine wA ?_ | refine wD ?_ | refine wL ?_ | refine wT ?_ | refine wF ?_ | refine bf_ ?_)
  refine br_ (List.range' 0 14) (by kernel_rfl) ?_
  repeat (first | (apply bj_;exact rfl;exact rfl;exact trivial;apply bc_;exact rfl;(first | exact q0 | exact q1)) | refine aM ?_ | refine aN ?_ | refine aD ?_ | refine aL ?_)
  refine gc_ rfl rfl rfl trivial rfl rfl (.cons rfl .nil) sr_ ?_ ?_
  ·rintro v1 L1 x1 ⟨rfl,rfl,rfl⟩ y hy
   replace hy:=(List.mem_filter.1 hy).1
   simp only [List.mem_cons,List.not_mem_nil,or_false] at hy
   repeat (rcases hy with rfl | hy;· first | exact .inl rfl | exact .inr ⟨_,rfl,trivial,bc_ rfl (by first | exact q0 | exact q1 | exact Rd.row0 rfl | exact Rd.row rfl rfl)⟩)
   all_goals first | (subst hy;first | exact .inl rfl | exact .inr ⟨_,rfl,trivial,bc_ rfl (by first | exact q0 | exact q1 | exact Rd.row0 rfl | exact Rd.row rfl rfl)⟩)
  rintro v1 L1 x1 ⟨rfl,rfl,rfl⟩
  skip
  refine hk_ rfl rfl rfl rfl trivial rfl rfl (.cons rfl (.cons rfl (.cons rfl .nil))) (cdx RB hn hs (.there hh)) ?_
  rintro v1 L1 x1 ⟨q,s',h1,rfl,rfl,rfl⟩
  repeat (first | refine aM ?_ | refine aA ?_ | (apply be_;exact rfl;exact rfl;exact gY;intro L;apply cr_;exact rfl;exact rfl) | refine bz_ ?_)
  repeat (first | (refine wR ?_;try simp only [oS]) | refine wM ?_)
  refine bo_ (.cons rfl .nil) trivial bxc ?_
  rintro v1 L1 x1 ⟨rfl,rfl,rfl⟩
  repeat (first | (apply wo_mo;apply bi_ (sz:=1) (vs:=[Go.PB.num (yes q)]);exact rfl;(repeat (first | exact EvL.nil | apply EvL.cons rfl));exact rfl;(repeat (first | exact List.forall_mem_nil _ | refine List.forall_mem_cons.2 ⟨rfl,?_⟩));omega;exact trivial))
  rintro v' L' ⟨vb,rfl,rfl⟩
  repeat (first | refine wneqF ?_ | refine bb_ ?_ | (refine wR ?_;try simp only [oS]) | refine ba_ ?_ | refine wM ?_ | refine wA ?_ | refine wF ?_ | refine bn_ ?_ | refine bk_ ?_)
  (first | refine or1 Try.func35 Try.results35 hQ rfl ?_ | refine on1 Try.func35 Try.results35 hQ rfl ?_)
  refine ⟨[yes q],s',h1,rfl,fun h st=>?_⟩
  exact gu_ (n:=1) rfl (Ent.star (.take .here (.take .here (.drop .refl))) st)
 rw [if_neg k4] at hs
 by_cases k5:kind=5
 ·subst k5
  rw [if_pos rfl] at hs
  repeat (first | refine weqlT ?_ | refine weqlF ?_ | refine bb_ ?_ | (refine wR ?_;try simp only [oS]) | refine ba_ ?_ | refine wA ?_ | refine wD ?_ | refine wL ?_ | refine wT ?_ | refine wF ?_ | refine bf_ ?_)
  refine br_ [0,1,2,3,4,5,6,8,9,7,10,11] (by kernel_rfl) ?_
  repeat (first | (apply bj_;exact rfl;exact rfl;exact trivial;apply bc_;exact rfl;(first | exact q0 | exact q1)) | refine aM ?_ | refine aN ?_ | refine aD ?_ | refine aL ?_)
  refine gc_ rfl rfl rfl trivial rfl rfl (.cons rfl .nil) sr_ ?_ ?_
  ·rintro v1 L1 x1 ⟨rfl,rfl,rfl⟩ y hy
   replace hy:=(List.mem_filter.1 hy).1
   simp only [List.mem_cons,List.not_mem_nil,or_false] at hy
   repeat (rcases hy with rfl | hy;· first | exact .inl rfl | exact .inr ⟨_,rfl,trivial,bc_ rfl (by first | exact q0 | exact q1 | exact Rd.row0 rfl | exact Rd.row rfl rfl)⟩)
   all_goals first | (subst hy;first | exact .inl rfl | exact .inr ⟨_,rfl,trivial,bc_ rfl (by first | exact q0 | exact q1 | exact Rd.row0 rfl | exact Rd.row rfl rfl)⟩)
  rintro v1 L1 x1 ⟨rfl,rfl,rfl⟩
  skip
  refine hk_ rfl rfl rfl rfl trivial rfl rfl (.cons rfl (.cons rfl (.cons rfl (.cons rfl .nil)))) (bqq RB hn hs (.there hh)) ?_
  rintro v1 L1 x1 ⟨s',h1,rfl,rfl,rfl⟩
  repeat (first | refine aA ?_ | refine bz_ ?_)
  repeat (first | refine wneqF ?_ | refine bb_ ?_ | (refine wR ?_;try simp only [oS]) | refine ba_ ?_ | refine wM ?_ | refine wA ?_ | refine wF ?_ | refine bn_ ?_ | refine bk_ ?_)
  (first | refine or1 Try.func35 Try.results35 hQ rfl ?_ | refine on1 Try.func35 Try.results35 hQ rfl ?_)
  refine ⟨[],s',h1,rfl,fun h st=>dp_ ?_⟩
  exact Ent.star (.take .here (.drop .refl)) st
 rw [if_neg k5] at hs
 by_cases k6:kind=6
 ·subst k6
  rw [if_pos rfl] at hs
  repeat (first | (apply wo_po;apply bc_;exact rfl;(first | exact q0 | exact q1);exact gY) | refine weqlT ?_ | refine weqlF ?_ | refine bb_ ?_ | (refine wR ?_;try simp only [oS]) | refine ba_ ?_ | refine wM ?_ | refine wA ?_ | refine wN ?_ | refine wD ?_ | refine wL ?_ | refine wT ?_ | refine wF ?_ | refine bf_ ?_)
  refine bo_ (.cons rfl (.cons rfl .nil)) trivial (brx RB hs (.there hh)) ?_
  rintro v1 L1 x1 ⟨w,s',hw,h1,rfl,rfl,rfl⟩
  repeat (first | (apply wo_mo;apply bi_ (sz:=1) (vs:=[Go.PB.num (w%4),Go.PB.num (w/4%2097152),Go.PB.num (w/8388608)]);exact rfl;(repeat (first | exact EvL.nil | apply EvL.cons rfl));exact rfl;(repeat (first | exact List.forall_mem_nil _ | refine List.forall_mem_cons.2 ⟨rfl,?_⟩));omega;exact trivial) | (refine wR ?_;try simp only [oS]) | refine ba_ ?_ | refine wM ?_ | refine wA ?_ | (apply wo_po;apply cr_;exact rfl;exact rfl;exact gY) | (apply wo_po;apply fe_;exact rfl;(first | exact hg_ (by omega) (by omega) | exact wrap_u64 (by omega) (by omega));exact gY))
  rintro v' L' ⟨vb,rfl,rfl⟩
  repeat (first | refine wneqF ?_ | refine bb_ ?_ | (refine wR ?_;try simp only [oS]) | refine ba_ ?_ | refine wM ?_ | refine wA ?_ | refine wF ?_ | refine bn_ ?_ | refine bk_ ?_)
  (first | refine or1 Try.func35 Try.results35 hQ rfl ?_ | refine on1 Try.func35 Try.results35 hQ rfl ?_)
  refine ⟨[w%4,w/4%2097152,w/8388608],s',h1,rfl,fun h st=>?_⟩
  exact gu_ (n:=3) rfl (Ent.star (.take .here (.take .here (.drop .refl))) st)
 rw [if_neg k6] at hs
 repeat (first | (apply wo_po;apply bc_;exact rfl;(first | exact q0 | exact q1);exact gY) | refine weqlF ?_ | refine bb_ ?_ | (refine wR ?_;try simp only [oS]) | refine ba_ ?_ | refine wM ?_ | refine wA ?_ | refine wN ?_ | refine wD ?_ | refine wL ?_ | refine wF ?_ | refine bf_ ?_)
 refine bo_ (.cons rfl (.cons rfl .nil)) trivial (ccm R hs (.there hh)) ?_
 rintro v1 L1 x1 ⟨u,w,s',h1,hu,hw,rfl,rfl,rfl⟩
 repeat (first | (apply wo_mo;apply bi_ (sz:=1) (vs:=[Go.PB.num u,Go.PB.num w]);exact rfl;(repeat (first | exact EvL.nil | apply EvL.cons rfl));exact rfl;(repeat (first | exact List.forall_mem_nil _ | refine List.forall_mem_cons.2 ⟨rfl,?_⟩));omega;exact trivial) | (refine wR ?_;try simp only [oS]) | refine ba_ ?_ | refine wM ?_ | refine wA ?_ | (apply wo_po;apply cr_;exact rfl;exact rfl;exact gY))
 rintro v' L' ⟨vb,rfl,rfl⟩
 repeat (first | refine wneqF ?_ | refine bb_ ?_ | (refine wR ?_;try simp only [oS]) | refine ba_ ?_ | refine wM ?_ | refine wA ?_ | refine wF ?_ | refine bn_ ?_ | refine bk_ ?_)
 (first | refine or1 Try.func35 Try.results35 hQ rfl ?_ | refine on1 Try.func35 Try.results35 hQ rfl ?_)
 refine ⟨[u,w],s',h1,rfl,fun h st=>?_⟩
 exact gu_ (n:=2) rfl (Ent.star (.take .here (.take .here (.drop .refl))) st)
theorem yo_ {kind:Int} {good:Bool} (hp2:Rd L p (0+2) (.int .u64 (limit:Nat))) (hp3:Rd L p (0+3) (.int .u64 (fails:Nat))) (hp4:Rd L p (0+4) (.int .u64 (wait:Nat))) :
  Tr Try.prog B 33 [.pointer (some ⟨p,0,none⟩),.agg #[.int .i64 kind,.int .u64 (n:Nat),.bool good]] L x fun w L' x'=>∃ y:CD,y.2.2.2=fr_ limit fails wait kind (n%1099511627777) good∧w=.agg #[.slice y.1.1 y.2.1 y.1.2,.slice y.2.2.1.1 y.2.2.2.data.length y.2.2.1.2]∧L'=cdK y::L∧x'=x:=by
 refine Tr.post (R:=fun w L' x'=>∃ y:CD,y.2.2.2=fr_ limit fails wait kind (n%1099511627777) good∧w=.agg #[.slice y.1.1 y.2.1 y.1.2,.slice y.2.2.1.1 y.2.2.2.data.length y.2.2.1.2]∧x'=x∧∀ h,Star L' h→Star (cdK y::L) h) ?_
  (by rintro v L' x' ⟨y,h1,rfl,rfl,hs⟩;exact ⟨_,⟨y,h1,rfl,rfl,rfl⟩,hs⟩)
 refine bd_ Try.func33 rfl Try.ntmps33 (by simp) fun um Q _ hQ=>?_
 simp only [argE,Nat.zero_add,Nat.reduceAdd]
 repeat (first | (apply wo_mo;apply ct_;exact rfl;exact trivial) | refine bb_ ?_ | (refine wR ?_;try simp only [oS]))
 rintro v' L' ⟨db,rfl,rfl⟩
 refine ft_ (arr db 0 [.int .i64 kind,.int .u64 (n:Nat),.bool good]::L) .refl ?_
 repeat (first | (apply wo_mo;apply ck_;exact trivial))
 rintro v' L' ⟨ab,rfl,rfl⟩
 have q2:∀ {c d:HProp},Rd (c::d::L) p (0+2) (.int .u64 (limit:Nat)):=.there (.there hp2)
 have q3:∀ {c d:HProp},Rd (c::d::L) p (0+3) (.int .u64 (fails:Nat)):=.there (.there hp3)
 have q4:∀ {c d:HProp},Rd (c::d::L) p (0+4) (.int .u64 (wait:Nat)):=.there (.there hp4)
 by_cases k1:kind=1
 ·subst k1
  repeat (first | (apply wo_po;apply bc_;exact rfl;exact q2;exact trivial) | refine weqlT ?_ | refine bb_ ?_ | (refine wR ?_;try simp only [oS]) | refine ba_ ?_ | refine wM ?_ | refine wA ?_ | refine wN ?_ | refine wD ?_ | refine wL ?_ | refine wT ?_ | refine bf_ ?_)
  refine bo_ (.cons rfl .nil) trivial bwd ?_
  rintro v1 L1 x1 ⟨a,c,rfl,rfl,rfl⟩
  repeat (first | (apply wo_pm;apply bw_ (b:=ab) (c:=0) (k:=0) (a:=0) (vs:=[.slice none 0 0,.slice none 0 0]);exact rfl;exact rfl;exact rfl;(intro w hw;simp [Value.cells] at hw;rcases hw with rfl | rfl <;> rfl);exact rfl;exact Nat.le_refl 2;exact (.there .here);exact trivial) | refine ba_ ?_ | refine bn_ ?_)
  refine cp_ (rs:=[.cell 4 103]) Try.func33 Try.results33 hQ (.inl rfl) (.cons (.cell (vs:=[.slice a 16 c,.slice none 0 0]) rfl rfl (Rds.all (.there .here))) .nil) ?_
  exact ⟨((a,c),16,(none,0),Mach.genterCl limit),(if_pos rfl).symm,rfl,rfl,fun h st=>Ent.star (.take .here (.drop (.drop .refl))) st⟩
 by_cases k2:kind=2
 ·subst k2
  repeat (first | refine weqlT ?_ | refine weqlF ?_ | refine bb_ ?_ | (refine wR ?_;try simp only [oS]) | refine ba_ ?_ | refine wA ?_ | refine wD ?_ | refine wL ?_ | refine wT ?_ | refine wF ?_ | refine bf_ ?_)
  refine bo_ .nil trivial bvz ?_
  rintro v1 L1 x1 ⟨a,c,rfl,rfl,rfl⟩
  repeat (first | (apply wo_pm;apply bw_ (b:=ab) (c:=0) (k:=0) (a:=0) (vs:=[.slice none 0 0,.slice none 0 0]);exact rfl;exact rfl;exact rfl;(intro w hw;simp [Value.cells] at hw;rcases hw with rfl | rfl <;> rfl);exact rfl;exact Nat.le_refl 2;exact (.there .here);exact trivial) | refine ba_ ?_ | refine bn_ ?_)
  refine cp_ (rs:=[.cell 4 103]) Try.func33 Try.results33 hQ (.inl rfl) (.cons (.cell (vs:=[.slice a 10 c,.slice none 0 0]) rfl rfl (Rds.all (.there .here))) .nil) ?_
  exact ⟨((a,c),10,(none,0),Mach.gleaveCl),((if_neg (by decide)).trans (if_pos rfl)).symm,rfl,rfl,fun h st=>Ent.star (.take .here (.drop (.drop .refl))) st⟩
 by_cases k4:kind=4
 ·subst k4
  repeat (first | refine weqlT ?_ | refine weqlF ?_ | refine bb_ ?_ | (refine wR ?_;try simp only [oS]) | refine ba_ ?_ | refine wA ?_ | refine wD ?_ | refine wL ?_ | refine wT ?_ | refine wF ?_ | refine bf_ ?_)
  refine br_ [0,1,3,4,5,6,7,8,9,10,2,11,12] (by kernel_rfl) ?_
  repeat (first | (apply bj_;exact rfl;exact rfl;exact trivial;apply bc_;exact rfl;(first | exact q3 | exact q4)) | refine aM ?_ | refine aN ?_ | refine aD ?_ | refine aL ?_)
  refine gc_ rfl rfl rfl trivial rfl rfl (.cons rfl .nil) sr_ ?_ ?_
  ·rintro v1 L1 x1 ⟨rfl,rfl,rfl⟩ y hy
   replace hy:=(List.mem_filter.1 hy).1
   simp only [List.mem_cons,List.not_mem_nil,or_false] at hy
   repeat (rcases hy with rfl | hy;· first | exact .inl rfl | exact .inr ⟨_,rfl,trivial,bc_ rfl (by first | exact q3 | exact q4 | exact .there (.row0 rfl) | exact .there (.row rfl rfl))⟩)
   all_goals first | (subst hy;first | exact .inl rfl | exact .inr ⟨_,rfl,trivial,bc_ rfl (by first | exact q3 | exact q4 | exact .there (.row0 rfl) | exact .there (.row rfl rfl))⟩)
  rintro v1 L1 x1 ⟨rfl,rfl,rfl⟩
  skip
  refine hk_ rfl rfl rfl rfl trivial rfl rfl (.cons rfl (.cons rfl (.cons rfl .nil))) cjk ?_
  rintro v1 L1 x1 ⟨a,c,db2,rfl,rfl,rfl⟩
  skip
  refine cg_ rfl rfl rfl rfl rfl trivial (bw_ (b:=ab) (c:=0) (k:=0) (a:=0) (vs:=[.slice none 0 0,.slice none 0 0]) rfl rfl rfl (by intro w hw;simp [Value.cells] at hw;rcases hw with rfl | rfl <;> rfl) rfl (Nat.le_refl 2) (.there .here)) ?_
  rintro v' L' ⟨rfl,rfl⟩
  refine bz_ ?_
  repeat (first | refine bn_ ?_)
  refine cp_ (rs:=[.cell 4 103]) Try.func33 Try.results33 hQ (.inl rfl) (.cons (.cell (vs:=[.slice a 23 c,.slice (some ⟨db2,0,none⟩) 3 3]) rfl rfl (Rds.all (.there .here))) .nil) ?_
  exact ⟨((a,c),23,(some ⟨db2,0,none⟩,3),Mach.gaskCl (n%1099511627777) fails wait),((if_neg (by decide)).trans ((if_neg (by decide)).trans (if_pos rfl))).symm,rfl,rfl,fun h st=>Ent.star (.take .here (.drop (.drop .refl))) st⟩
 by_cases k5:kind=5
 ·subst k5
  cases good
  ·have e:fr_ limit fails wait 5 (n%1099511627777) false=Mach.gtellbCl (n%1099511627777) fails wait:=rfl
   repeat (first | refine weqlT ?_ | refine weqlF ?_ | refine bb_ ?_ | (refine wR ?_;try simp only [oS]) | refine ba_ ?_ | refine wA ?_ | refine wD ?_ | refine wL ?_ | refine wT ?_ | refine wF ?_ | refine bf_ ?_)
   refine br_ [0,1,3,4,5,6,7,8,9,10,11,12,2,13,14] (by kernel_rfl) ?_
   repeat (first | (apply bj_;exact rfl;exact rfl;exact trivial;apply bc_;exact rfl;(first | exact q3 | exact q4)) | refine aM ?_ | refine aN ?_ | refine aD ?_ | refine aL ?_)
   refine gc_ rfl rfl rfl trivial rfl rfl (.cons rfl .nil) sr_ ?_ ?_
   ·rintro v1 L1 x1 ⟨rfl,rfl,rfl⟩ y hy
    replace hy:=(List.mem_filter.1 hy).1
    simp only [List.mem_cons,List.not_mem_nil,or_false] at hy
    repeat (rcases hy with rfl | hy;· first | exact .inl rfl | exact .inr ⟨_,rfl,trivial,bc_ rfl (by first | exact q3 | exact q4 | exact .there (.row0 rfl) | exact .there (.row rfl rfl))⟩)
    all_goals first | (subst hy;first | exact .inl rfl | exact .inr ⟨_,rfl,trivial,bc_ rfl (by first | exact q3 | exact q4 | exact .there (.row0 rfl) | exact .there (.row rfl rfl))⟩)
   rintro v1 L1 x1 ⟨rfl,rfl,rfl⟩
   skip
   refine hk_ rfl rfl rfl rfl trivial rfl rfl (.cons rfl (.cons rfl (.cons rfl (.cons rfl .nil)))) bvm ?_
   rintro v1 L1 x1 ⟨a,c,db2,rfl,rfl,rfl⟩
   skip
   refine cg_ rfl rfl rfl rfl rfl trivial (bw_ (b:=ab) (c:=0) (k:=0) (a:=0) (vs:=[.slice none 0 0,.slice none 0 0]) rfl rfl rfl (by intro w hw;simp [Value.cells] at hw;rcases hw with rfl | rfl <;> rfl) rfl (Nat.le_refl 2) (.there .here)) ?_
   rintro v' L' ⟨rfl,rfl⟩
   refine bz_ ?_
   repeat (first | refine bn_ ?_)
   refine cp_ (rs:=[.cell 4 103]) Try.func33 Try.results33 hQ (.inl rfl) (.cons (.cell (vs:=[.slice a 36 c,.slice (some ⟨db2,0,none⟩) 3 3]) rfl rfl (Rds.all (.there .here))) .nil) ?_
   exact ⟨((a,c),36,(some ⟨db2,0,none⟩,3),Mach.gtellbCl (n%1099511627777) fails wait),e.symm,rfl,rfl,fun h st=>Ent.star (.take .here (.drop (.drop .refl))) st⟩
  ·have e:fr_ limit fails wait 5 (n%1099511627777) true=Mach.gtellgCl (n%1099511627777) fails wait:=rfl
   repeat (first | refine weqlT ?_ | refine weqlF ?_ | refine bb_ ?_ | (refine wR ?_;try simp only [oS]) | refine ba_ ?_ | refine wA ?_ | refine wD ?_ | refine wL ?_ | refine wT ?_ | refine wF ?_ | refine bf_ ?_)
   refine br_ [0,1,3,4,5,6,7,8,9,10,11,12,2,13,14] (by kernel_rfl) ?_
   repeat (first | (apply bj_;exact rfl;exact rfl;exact trivial;apply bc_;exact rfl;(first | exact q3 | exact q4)) | refine aM ?_ | refine aN ?_ | refine aD ?_ | refine aL ?_)
   refine gc_ rfl rfl rfl trivial rfl rfl (.cons rfl .nil) sr_ ?_ ?_
   ·rintro v1 L1 x1 ⟨rfl,rfl,rfl⟩ y hy
    replace hy:=(List.mem_filter.1 hy).1
    simp only [List.mem_cons,List.not_mem_nil,or_false] at hy
    repeat (rcases hy with rfl | hy;· first | exact .inl rfl | exact .inr ⟨_,rfl,trivial,bc_ rfl (by first | exact q3 | exact q4 | exact .there (.row0 rfl) | exact .there (.row rfl rfl))⟩)
    all_goals first | (subst hy;first | exact .inl rfl | exact .inr ⟨_,rfl,trivial,bc_ rfl (by first | exact q3 | exact q4 | exact .there (.row0 rfl) | exact .there (.row rfl rfl))⟩)
   rintro v1 L1 x1 ⟨rfl,rfl,rfl⟩
   skip
   refine hk_ rfl rfl rfl rfl trivial rfl rfl (.cons rfl (.cons rfl (.cons rfl (.cons rfl .nil)))) bvk ?_
   rintro v1 L1 x1 ⟨a,c,db2,rfl,rfl,rfl⟩
   skip
   refine cg_ rfl rfl rfl rfl rfl trivial (bw_ (b:=ab) (c:=0) (k:=0) (a:=0) (vs:=[.slice none 0 0,.slice none 0 0]) rfl rfl rfl (by intro w hw;simp [Value.cells] at hw;rcases hw with rfl | rfl <;> rfl) rfl (Nat.le_refl 2) (.there .here)) ?_
   rintro v' L' ⟨rfl,rfl⟩
   refine bz_ ?_
   repeat (first | refine bn_ ?_)
   refine cp_ (rs:=[.cell 4 103]) Try.func33 Try.results33 hQ (.inl rfl) (.cons (.cell (vs:=[.slice a 29 c,.slice (some ⟨db2,0,none⟩) 3 3]) rfl rfl (Rds.all (.there .here))) .nil) ?_
   exact ⟨((a,c),29,(some ⟨db2,0,none⟩,3),Mach.gtellgCl (n%1099511627777) fails wait),e.symm,rfl,rfl,fun h st=>Ent.star (.take .here (.drop (.drop .refl))) st⟩
 by_cases k6:kind=6
 ·subst k6
  repeat (first | refine weqlT ?_ | refine weqlF ?_ | refine bb_ ?_ | (refine wR ?_;try simp only [oS]) | refine ba_ ?_ | refine wA ?_ | refine wD ?_ | refine wL ?_ | refine wT ?_ | refine wF ?_ | refine bf_ ?_)
  refine bo_ .nil trivial bvn ?_
  rintro v1 L1 x1 ⟨a,c,rfl,rfl,rfl⟩
  repeat (first | (apply wo_pm;apply bw_ (b:=ab) (c:=0) (k:=0) (a:=0) (vs:=[.slice none 0 0,.slice none 0 0]);exact rfl;exact rfl;exact rfl;(intro w hw;simp [Value.cells] at hw;rcases hw with rfl | rfl <;> rfl);exact rfl;exact Nat.le_refl 2;exact (.there .here);exact trivial) | refine ba_ ?_ | refine bn_ ?_)
  refine cp_ (rs:=[.cell 4 103]) Try.func33 Try.results33 hQ (.inl rfl) (.cons (.cell (vs:=[.slice a 9 c,.slice none 0 0]) rfl rfl (Rds.all (.there .here))) .nil) ?_
  exact ⟨((a,c),9,(none,0),Mach.gstateCl),((if_neg (by decide)).trans ((if_neg (by decide)).trans ((if_neg (by decide)).trans ((if_neg (by decide)).trans (if_pos rfl))))).symm,rfl,rfl,fun h st=>Ent.star (.take .here (.drop (.drop .refl))) st⟩
 repeat (first | refine weqlF ?_ | refine bb_ ?_ | (refine wR ?_;try simp only [oS]) | refine ba_ ?_ | refine wA ?_ | refine wD ?_ | refine wL ?_ | refine wF ?_ | refine bk_ ?_ | refine bf_ ?_)
 refine bo_ .nil trivial cjh ?_
 rintro v1 L1 x1 ⟨a,c,rfl,rfl,rfl⟩
 repeat (first | (apply wo_pm;apply bw_ (b:=ab) (c:=0) (k:=0) (a:=0) (vs:=[.slice none 0 0,.slice none 0 0]);exact rfl;exact rfl;exact rfl;(intro w hw;simp [Value.cells] at hw;rcases hw with rfl | rfl <;> rfl);exact rfl;exact Nat.le_refl 2;exact (.there .here);exact trivial) | refine ba_ ?_ | refine bn_ ?_)
 refine cp_ (rs:=[.cell 4 103]) Try.func33 Try.results33 hQ (.inl rfl) (.cons (.cell (vs:=[.slice a 4 c,.slice none 0 0]) rfl rfl (Rds.all (.there .here))) .nil) ?_
 exact ⟨((a,c),4,(none,0),Mach.ggetCl),((if_neg k1).trans ((if_neg k2).trans ((if_neg k4).trans ((if_neg k5).trans (if_neg k6))))).symm,rfl,rfl,fun h st=>Ent.star (.take .here (.drop (.drop .refl))) st⟩
end
end
end Go.Proofs.Ytnnpdmhmpgmpnaa
namespace Go.PB
section
section
variable {P:Program} {xt:TypeId} {x y:Operand} {a b:ByteArray}
theorem zm_ {M:Mark→Prop} {α:Type} {t:TypeId} {n:Nat} {cs:Array Value} {off:Nat} {kk:Value→Sem α} (ha:aggOf P t=some true) (hz:szOf P t=some n) {h:Hp} {Q:α→Hp→Prop} {X:Value→Hp→Prop} (q:wpS P M (kk (.agg (cs.extract off (off+n)))) h Q X) :
  wpS P M (Sem.bind (part t cs off) kk) h Q X:=by
 refine bq_ _ _ ?_
 unfold part
 refine ky_ (q:=true) ha ?_
 simp only [if_true]
 refine ds_ hz ?_
 exact q
theorem bpk {t t1:TypeId} {f0 f1 g0 g1:Field} {k0 k1 k2:IntKind} {a0 b0 a1 b1 a2 b2:Int} [p:Und P t (.struct #[f0,f1])] [p1:Und P t1 (.struct #[g0,g1])] [sz:Siz P t1 2] (hs:P.stoodInHeld t=false) (hs1:P.stoodInHeld t1=false) (hg:P.eqGuardType P.depth t=false)
  (n0:f0.name ≠ "_") (n1:f1.name ≠ "_") (m0:g0.name ≠ "_") (m1:g1.name ≠ "_") (o0:f0.offset=0) (o1:f1.offset=1) (q0:g0.offset=0) (q1:g1.offset=1) (ft1:f1.type=t1) (t0:P.underlying f0.type=some (.int k0)) (u0:P.underlying g0.type=some (.int k1)) (u1:P.underlying g1.type=some (.int k2)) :
  Eql P t x y (.agg #[.int k0 a0,.int k1 a1,.int k2 a2]) (.agg #[.int k0 b0,.int k1 b1,.int k2 b2]) (decide (a0=b0∧a1=b1∧a2=b2)) :=
 cjn hg fun {M h Q X} q=>by
  rw [ke_]
  unfold Op.equalIn
  refine bx_ p.ok ?_
  dsimp only
  refine ho_ (β:=Unit) ?_
  simp only [hs,Bool.false_eq_true,if_false,← Array.forIn_toList,List.forIn_cons,List.forIn_nil,n0,n1,ne_eq,not_false_eq_true,if_true,bind_assoc,pure_bind,o0,o1,ft1]
  have ha:aggOf P t1=some true:=by unfold aggOf;rw [p1.ok];rfl
  refine jx_ t0 rfl (jx_ t0 rfl (qs_ (d:=9998) t0 ?_))
  by_cases e0:a0=b0
  ·subst e0
   simp only [beq_self_eq_true,Bool.not_true,Bool.false_eq_true,if_false,pure_bind,bind_assoc]
   refine zm_ ha sz.ok (zm_ ha sz.ok (bq_ _ _ ?_))
   refine bjt (d:=9997) p1.ok hs1 m0 m1 q0 q1 u0 u1 ?_
   by_cases e1:a1=b1∧a2=b2
   ·obtain ⟨rfl,rfl⟩:=e1
    simp only [decide_true,and_self,Bool.not_true,Bool.false_eq_true,if_false,pure_bind]
    have q':Q true h:=by simpa using q
    exact q'
   ·simp only [e1,decide_false,Bool.not_false,if_true,pure_bind]
    have q':Q false h:=by simpa [e1] using q
    exact q'
  ·have:(a0 == b0)=false:=by simp [e0]
   simp only [this,Bool.not_false,if_true,pure_bind,bind_assoc]
   have q':Q false h:=by simpa [e0] using q
   exact q'
end
end
end Go.PB
namespace Go.Proofs.Ytnnpdmhmpgmpnaa
open Go Go.PB
attribute [local irreducible] Mo Bin Eql Tr Wo Ap
section
theorem cnc {x y:Operand} {a0 b0 a1 b1 a2 b2:Int}:Eql Try.prog 175 x y (.agg #[.int .i64 a0,.int .u8 a1,.int .i64 a2]) (.agg #[.int .i64 b0,.int .u8 b1,.int .i64 b2]) (decide (a0=b0∧a1=b1∧a2=b2)) :=
 haveI p0:Und Try.prog 175 _:=⟨Try.underlying175⟩
 haveI p1:Und Try.prog 66 _:=⟨Try.underlying66⟩
 bpk (t1:=66) (p:=p0) (p1:=p1) (by kernel_rfl) (by kernel_rfl) (by kernel_rfl) (by decide) (by decide) (by decide) (by decide) rfl rfl rfl rfl rfl (by kernel_rfl) (by kernel_rfl) (by kernel_rfl)
def RdTr (L:List HProp) (a:Option Addr) (l:List (Nat × (Int × Int))):Prop:=∀ (i:Nat) t,l[i]?=some t→∃ b o,a=some ⟨b,o,none⟩∧Rds L b (o+3*i) [.int .i64 (t.1:Nat),.int .u8 t.2.1,.int .i64 t.2.2]
def RdI (L:List HProp) (a:Option Addr) (l:List Nat):Prop:=∀ (i:Nat) k,l[i]?=some k→∃ b o,a=some ⟨b,o,none⟩∧Rd L b (o+i) (.int .i64 (k:Nat))
theorem RdTr.there {L:List HProp} {a:Option Addr} {l:List (Nat × (Int × Int))} {d:HProp} (h:RdTr L a l):RdTr (d::L) a l:=fun i t hi=>by
 obtain ⟨b,o,e,r⟩:=h i t hi
 exact ⟨b,o,e,fun j v hj=>.there (r j v hj)⟩
theorem RdI.there {L:List HProp} {a:Option Addr} {l:List Nat} {d:HProp} (h:RdI L a l):RdI (d::L) a l:=fun i t hi=>by
 obtain ⟨b,o,e,r⟩:=h i t hi
 exact ⟨b,o,e,.there r⟩
section
variable {B:Hand} [Lets B] {L F:List HProp} {x:B.X}
def mc_ (x:B.X) (j p q:Nat) (n:Nat) (u1 u2 v1 v2:Value) (L:List HProp):Inv Nat B.X where
 e:=fun i=>[(2,.pointer (some ⟨p,0,none⟩)),(3,.pointer (some ⟨q,0,none⟩)),(j,.int .i64 (i:Nat))]
 L:=fun _=>arr q 0 [v1,v2]::arr p 0 [u1,u2]::L
 x:=fun _=>x
 ok:=fun i=>i≤n
theorem xr_ {a1 a2 a3 a4:Option Addr} {c1 c2 c3 c4:Nat} {tr:List (Nat × (Int × Int))} {cut:List Nat} (h1:RdTr L a1 tr) (h3:RdTr L a3 tr) (h2:RdI L a2 cut) (h4:RdI L a4 cut) (hl:tr.length<1000000000) (hl2:cut.length<1000000000) :
  Tr Try.prog B 38 [.agg #[.slice a1 tr.length c1,.slice a2 cut.length c2],.agg #[.slice a3 tr.length c3,.slice a4 cut.length c4]] L x fun v L' x'=>v=.bool true∧L'=L∧x'=x:=by
 refine Tr.post (R:=fun v L' x'=>v=.bool true∧x'=x∧∀ h,Star L' h→Star L h) ?_
  (by rintro v L' x' ⟨rfl,rfl,h2⟩;exact ⟨_,⟨rfl,rfl,rfl⟩,h2⟩)
 refine bd_ Try.func38 rfl Try.ntmps38 (by simp) fun um Q _ hQ=>?_
 simp only [argE,Nat.zero_add,Nat.reduceAdd]
 repeat (first | (apply wo_mo;apply ct_;exact rfl;exact trivial) | refine bb_ ?_ | (refine wR ?_;try simp only [oS]))
 rintro v' L' ⟨p,rfl,rfl⟩
 repeat (first | (apply wo_mo;apply ct_;exact rfl;exact trivial))
 rintro v' L' ⟨q,rfl,rfl⟩
 refine ft_ (arr q 0 [.slice a3 tr.length c3,.slice a4 cut.length c4]::arr p 0 [.slice a1 tr.length c1,.slice a2 cut.length c2]::L) .refl ?_
 repeat (first | refine wneqF ?_ | refine bb_ ?_ | (refine wR ?_;try simp only [oS]) | refine ba_ ?_ | refine wM ?_ | refine wA ?_ | refine wJ ?_ | refine wD ?_ | refine wL ?_ | refine wE ?_ | refine wF ?_ | refine bk_ ?_ | refine bf_ ?_)
 refine de_ (mc_ x 5 p q tr.length (.slice a1 tr.length c1) (.slice a2 cut.length c2) (.slice a3 tr.length c3) (.slice a4 cut.length c4) L) (fun i=>tr.length-i) 0 (Nat.zero_le _) ⟨rfl,rfl,rfl,trivial⟩ .refl rfl ?_
 intro i hi
 replace hi:i≤tr.length:=hi
 simp only [mc_]
 by_cases hlt:i<tr.length
 ·obtain ⟨t,ht⟩:∃ t,tr[i]?=some t:=⟨tr[i],List.getElem?_eq_getElem hlt⟩
  obtain ⟨b1,o1,rfl,r1⟩:=h1 i t ht
  obtain ⟨b3,o3,rfl,r3⟩:=h3 i t ht
  have r1:Rds (arr q 0 [.slice (some ⟨b3,o3,none⟩) tr.length c3,.slice a4 cut.length c4]::arr p 0 [.slice (some ⟨b1,o1,none⟩) tr.length c1,.slice a2 cut.length c2]::L) b1 (o1+3*i) [.int .i64 (t.1:Nat),.int .u8 t.2.1,.int .i64 t.2.2]:=fun j v hj=>.there (.there (r1 j v hj))
  have r3:Rds (arr q 0 [.slice (some ⟨b3,o3,none⟩) tr.length c3,.slice a4 cut.length c4]::arr p 0 [.slice (some ⟨b1,o1,none⟩) tr.length c1,.slice a2 cut.length c2]::L) b3 (o3+3*i) [.int .i64 (t.1:Nat),.int .u8 t.2.1,.int .i64 t.2.2]:=fun j v hj=>.there (.there (r3 j v hj))
  have heq:=cnc (x:=.tmp 34) (y:=.tmp 39) (a0:=(t.1:Nat)) (b0:=(t.1:Nat)) (a1:=t.2.1) (b1:=t.2.1) (a2:=t.2.2) (b2:=t.2.2)
  rw [show decide ((((t.1:Nat):Int)=(t.1:Nat))∧t.2.1=t.2.1∧t.2.2=t.2.2)=true by simp] at heq
  repeat (first | refine wlssT ?_ | refine bb_ ?_ | (refine wR ?_;try simp only [oS]) | refine ba_ ?_ | refine wM ?_ | refine wD ?_ | refine wL ?_ | refine wE ?_ | refine wT ?_ | refine bk_ ?_ | refine bf_ ?_)
  refine br_ (List.range' 0 11) (by kernel_rfl) ?_
  repeat (first | (apply be_;exact rfl;exact rfl;exact trivial;intro L;apply cb_ (r:=o1+3*i);exact rfl;exact rfl;omega;omega;omega) | (apply be_;exact rfl;exact rfl;exact trivial;intro L;apply cb_ (r:=o3+3*i);exact rfl;exact rfl;omega;omega;omega) | (apply bj_;exact rfl;exact rfl;exact trivial;apply cc_ (vs:=[.int .i64 (t.1:Nat),.int .u8 t.2.1,.int .i64 t.2.2]);exact rfl;exact rfl;exact r1) | (apply bj_;exact rfl;exact rfl;exact trivial;apply cc_ (vs:=[.int .i64 (t.1:Nat),.int .u8 t.2.1,.int .i64 t.2.2]);exact rfl;exact rfl;exact r3) | (apply be_;exact rfl;exact rfl;exact trivial;intro L;apply bu_;exact rfl;exact rfl;apply yu_;exact heq) | refine aM ?_ | refine aD ?_ | refine aL ?_ | refine bz_ ?_)
  repeat (first | (refine wR ?_;try simp only [oS]) | refine ba_ ?_ | refine wM ?_ | refine wA ?_ | refine wadd ?_ | refine wF ?_ | refine bk_ ?_)
  refine dr_ (I:=mc_ x 5 p q tr.length (.slice (some ⟨b1,o1,none⟩) tr.length c1) (.slice a2 cut.length c2) (.slice (some ⟨b3,o3,none⟩) tr.length c3) (.slice a4 cut.length c4) L) (R:=fun j=>tr.length-j<tr.length-i) (i+1) (by omega) (show i+1≤tr.length by omega) ?_ .refl rfl
  exact ⟨rfl,rfl,rfl,trivial⟩
 obtain rfl:i=tr.length:=by omega
 repeat (first | refine wlssF ?_ | refine bb_ ?_ | (refine wR ?_;try simp only [oS]) | refine ba_ ?_ | refine wM ?_ | refine wA ?_ | refine wD ?_ | refine wL ?_ | refine wE ?_ | refine wF ?_ | refine bf_ ?_ | refine cu_ ?_)
 refine de_ (mc_ x 6 p q cut.length (.slice a1 tr.length c1) (.slice a2 cut.length c2) (.slice a3 tr.length c3) (.slice a4 cut.length c4) L) (fun i=>cut.length-i) 0 (Nat.zero_le _) ⟨rfl,rfl,rfl,trivial⟩ .refl rfl ?_
 intro i hi
 replace hi:i≤cut.length:=hi
 simp only [mc_]
 by_cases hlt:i<cut.length
 ·obtain ⟨t,ht⟩:∃ t,cut[i]?=some t:=⟨cut[i],List.getElem?_eq_getElem hlt⟩
  obtain ⟨b1,o1,rfl,r1⟩:=h2 i t ht
  obtain ⟨b3,o3,rfl,r3⟩:=h4 i t ht
  have r1:Rd (arr q 0 [.slice a3 tr.length c3,.slice (some ⟨b3,o3,none⟩) cut.length c4]::arr p 0 [.slice a1 tr.length c1,.slice (some ⟨b1,o1,none⟩) cut.length c2]::L) b1 (o1+i) (.int .i64 (t:Nat)):=.there (.there r1)
  have r3:Rd (arr q 0 [.slice a3 tr.length c3,.slice (some ⟨b3,o3,none⟩) cut.length c4]::arr p 0 [.slice a1 tr.length c1,.slice (some ⟨b1,o1,none⟩) cut.length c2]::L) b3 (o3+i) (.int .i64 (t:Nat)):=.there (.there r3)
  repeat (first | refine wlssT ?_ | refine bb_ ?_ | (refine wR ?_;try simp only [oS]) | refine ba_ ?_ | refine wM ?_ | refine wD ?_ | refine wL ?_ | refine wE ?_ | refine wT ?_ | refine bk_ ?_ | refine bf_ ?_)
  refine br_ (List.range' 0 11) (by kernel_rfl) ?_
  repeat (first | (apply be_;exact rfl;exact rfl;exact trivial;intro L;apply cb_ (r:=o1+i);exact rfl;exact rfl;omega;omega;omega) | (apply be_;exact rfl;exact rfl;exact trivial;intro L;apply cb_ (r:=o3+i);exact rfl;exact rfl;omega;omega;omega) | (apply bj_;exact rfl;exact rfl;exact trivial;apply bc_;exact rfl;exact r1) | (apply bj_;exact rfl;exact rfl;exact trivial;apply bc_;exact rfl;exact r3) | refine aM ?_ | refine aD ?_ | (apply be_;exact rfl;exact rfl;exact gY;intro L;apply bu_;exact rfl;exact rfl;exact bfh) | refine aL ?_ | refine bz_ ?_)
  rw [show (!decide (((t:Nat):Int)=((t:Nat):Int)))=false by simp]
  repeat (first | (refine wR ?_;try simp only [oS]) | refine ba_ ?_ | refine wM ?_ | refine wA ?_ | refine wadd ?_ | refine wF ?_ | refine bk_ ?_)
  refine dr_ (I:=mc_ x 6 p q cut.length (.slice a1 tr.length c1) (.slice (some ⟨b1,o1,none⟩) cut.length c2) (.slice a3 tr.length c3) (.slice (some ⟨b3,o3,none⟩) cut.length c4) L) (R:=fun j=>cut.length-j<cut.length-i) (i+1) (by omega) (show i+1≤cut.length by omega) ?_ .refl rfl
  exact ⟨rfl,rfl,rfl,trivial⟩
 obtain rfl:i=cut.length:=by omega
 repeat (first | refine wlssF ?_ | refine bb_ ?_ | (refine wR ?_;try simp only [oS]) | refine ba_ ?_ | refine wM ?_ | refine wA ?_ | refine wD ?_ | refine wL ?_ | refine wE ?_ | refine wF ?_ | refine bn_ ?_ | refine cu_ ?_)
 (first | refine or1 Try.func38 Try.results38 hQ rfl ?_ | refine on1 Try.func38 Try.results38 hQ rfl ?_)
 exact ⟨rfl,rfl,fun h st=>Ent.star (.drop (.drop .refl)) st⟩
end
end
section
def GotAt (L:List HProp) (v:Value) (pre:List (List Nat)):Prop:=∃ a c,v=.slice a pre.length c∧∀ (j:Nat) ws,pre[j]?=some ws→∃ b o a' c',a=some ⟨b,o,none⟩∧Rd L b (o+j) (.slice a' ws.length c')∧RdV L a' ws
def bqd (L:List HProp) (a:Option Addr) (l:List (List (List Nat))):Prop:=∀ (k:Nat) pre,l[k]?=some pre→∃ b o v,a=some ⟨b,o,none⟩∧Rd L b (o+k) v∧GotAt L v pre
def AnsAt (L:List HProp) (v:Value) (ans:List (Bool × List Nat)):Prop:=∃ a c,v=.slice a ans.length c∧∀ (j:Nat) y,ans[j]?=some y→∃ b o a' c',a=some ⟨b,o,none⟩∧Rd L b (o+2*j) (.bool y.1)∧Rd L b (o+2*j+1) (.slice a' y.2.length c')∧RdV L a' y.2
def bqf (L:List HProp) (a:Option Addr) (l:List (List (Bool × List Nat))):Prop:=∀ (k:Nat) ans,l[k]?=some ans→∃ b o v,a=some ⟨b,o,none⟩∧Rd L b (o+k) v∧AnsAt L v ans
def Told (ans:List (Bool × List Nat)) (pre:List (List Nat)):Prop:=∃ tail,ans=pre.map (fun w=>(true,w))++tail∧∀ y∈tail,y.1=false
section
variable {B:Hand} [Lets B] {L F:List HProp} {x:B.X}
def xs_ (x:B.X) (u v:Value) (n:Nat) (L:List HProp):Inv Nat B.X where
 e:=fun i=>[(0,u),(1,v),(5,.int .i64 (i:Nat))]
 L:=fun _=>L
 x:=fun _=>x
 ok:=fun i=>i≤n
def sx_ (x:B.X) (u v:Value) (i n m:Nat) (L:List HProp):Inv Nat B.X where
 e:=fun j=>[(0,u),(1,v),(5,.int .i64 (i:Nat)),(6,.int .i64 (min j m:Nat)),(7,.int .i64 (j:Nat))]
 L:=fun _=>L
 x:=fun _=>x
 ok:=fun j=>j≤n
theorem wh_ {ga aa:Option Addr} {gc ac:Nat} {got:List (List (List Nat))} {anss:List (List (Bool × List Nat))} (hg:bqd L ga got) (ha:bqf L aa anss) (hlen:got.length=anss.length) (htold:∀ (k:Nat) pre ans,got[k]?=some pre→anss[k]?=some ans→Told ans pre)
  (hl:anss.length<1000000000) (hl2:∀ a∈anss,a.length<1000000000) (hl3:∀ a∈anss,∀ y∈a,y.2.length<1000000000) :
  Tr Try.prog B 39 [.slice ga anss.length gc,.slice aa anss.length ac] L x fun v L' x'=>v=.bool true∧L'=L∧x'=x:=by
 refine bd_ Try.func39 rfl Try.ntmps39 (by simp) fun um Q _ hQ=>?_
 simp only [argE,Nat.zero_add,Nat.reduceAdd]
 repeat (first | refine wneqF ?_ | refine bb_ ?_ | (refine wR ?_;try simp only [oS]) | refine ba_ ?_ | refine wM ?_ | refine wA ?_ | refine wE ?_ | refine wF ?_ | refine bk_ ?_ | refine bf_ ?_)
 refine de_ (xs_ x (.slice ga anss.length gc) (.slice aa anss.length ac) anss.length L) (fun i=>anss.length-i) 0 (Nat.zero_le _) ⟨rfl,rfl,rfl,trivial⟩ .refl rfl ?_
 intro i hi
 replace hi:i≤anss.length:=hi
 simp only [xs_]
 by_cases hlt:i<anss.length
 ·obtain ⟨ans,hans⟩:∃ t,anss[i]?=some t:=⟨anss[i],List.getElem?_eq_getElem hlt⟩
  obtain ⟨pre,hpre⟩:∃ t,got[i]?=some t:=⟨got[i]'(by omega),List.getElem?_eq_getElem (by omega)⟩
  have hn:=hl2 ans (List.mem_of_getElem? hans)
  have hn3:=hl3 ans (List.mem_of_getElem? hans)
  obtain ⟨tail,htl,hfalse⟩:=htold i pre ans hpre hans
  have hle:pre.length≤ans.length:=by rw [htl];simp
  obtain ⟨gb,go,gv,rfl,rg,ga2,gc2,rfl,hg2⟩:=hg i pre hpre
  obtain ⟨ab,ao,av,rfl,ra,aa2,ac2,rfl,ha2⟩:=ha i ans hans
  repeat (first | refine wlssT ?_ | refine bb_ ?_ | (refine wR ?_;try simp only [oS]) | refine ba_ ?_ | refine wM ?_ | refine wA ?_ | refine wE ?_ | refine wT ?_ | refine bk_ ?_ | refine bf_ ?_)
  refine de_ (sx_ x (.slice (some ⟨gb,go,none⟩) anss.length gc) (.slice (some ⟨ab,ao,none⟩) anss.length ac) i ans.length pre.length L) (fun i=>ans.length-i) 0 (Nat.zero_le _) ⟨rfl,rfl,rfl,(by rw [Nat.zero_min];rfl),rfl,trivial⟩ .refl rfl ?_
  intro j hj
  replace hj:j≤ans.length:=hj
  simp only [sx_]
  by_cases hjl:j<ans.length
  ·obtain ⟨⟨q,ws⟩,hy⟩:∃ y,ans[j]?=some y:=⟨ans[j],List.getElem?_eq_getElem hjl⟩
   obtain ⟨b2,o2,a2,c2,rfl,r1,r2,rv⟩:=ha2 j _ hy
   simp only at r1 r2 rv
   by_cases hjp:j<pre.length
   ·have hyy:ans[j]?=some (true,pre[j]):=by
     rw [htl,List.getElem?_append_left (by simpa using hjp)];simp [hjp]
    rw [hy] at hyy
    obtain ⟨rfl,rfl⟩:q=true∧ws=pre[j]:=by simpa using hyy
    obtain ⟨b3,o3,a3,c3,rfl,s1,sv⟩:=hg2 j pre[j] (List.getElem?_eq_getElem hjp)
    have hwl:=hn3 _ (List.mem_of_getElem? hy)
    simp only at hwl
    rw [show min j pre.length=j by omega]
    obtain ⟨ws,hws⟩:∃ ws,pre[j]=ws:=⟨_,rfl⟩
    rw [hws] at r2 rv s1 sv hwl
    repeat (first | (apply wo_po;apply cm_;exact rfl;exact rfl;omega;exact trivial) | (apply wo_po;apply fs_;exact rfl;exact rfl;omega;exact trivial) | (apply wo_po;apply bc_;exact rfl;exact ra;exact trivial) | (apply wo_po;apply bc_;exact rfl;exact r1;exact trivial) | refine wlssT ?_ | refine bb_ ?_ | (refine wR ?_;try simp only [oS]) | refine ba_ ?_ | refine wM ?_ | refine wD ?_ | (apply wo_po;apply ge_;exact rfl;exact gY) | refine wE ?_ | refine wT ?_ | refine wF ?_ | refine bk_ ?_ | refine bf_ ?_)
    refine br_ (List.range' 0 26) (by kernel_rfl) ?_
    repeat (first | (apply be_;exact rfl;exact rfl;exact gY;intro L;apply bu_;exact rfl;exact rfl;exact (ts_ (by omega))) | (apply be_;exact rfl;exact rfl;exact gY;intro L;apply cm_;exact rfl;exact rfl;omega) | (apply be_;exact rfl;exact rfl;exact gY;intro L;apply fs_;exact rfl;exact rfl;omega) | (apply bj_;exact rfl;exact rfl;exact gY;apply bc_;exact rfl;(first | exact ra | exact rg | exact s1 | exact r2)) | refine aM ?_ | refine aD ?_ | (apply be_;exact rfl;exact rfl;exact gY;intro L;apply pi_;exact rfl))
    refine gc_ (Pd':=[]) rfl rfl (by kernel_rfl) rfl rfl rfl (.cons rfl (.cons rfl .nil)) (qo_ (l:=ws) (l':=ws) rfl rfl hwl sv rv) (fun v L' x' _ p hp=>by cases hp) ?_
    rintro v L' x' ⟨rfl,eL,ex⟩
    subst L' x'
    rw [show decide (ws=ws)=true from decide_eq_true rfl]
    repeat (first | (apply be_;exact rfl;exact rfl;exact gY;intro L;apply ge_;exact rfl) | (apply be_;exact rfl;exact rfl;exact gY;intro L;apply yh_;exact rfl;exact rfl;exact rfl) | refine bz_ ?_)
    repeat (first | (refine wR ?_;try simp only [oS]) | refine ba_ ?_ | refine wM ?_ | refine wA ?_ | refine wadd ?_ | refine wF ?_ | refine bk_ ?_)
    refine dr_ (I:=sx_ _ _ _ i ans.length pre.length L) (R:=fun k=>ans.length-k<ans.length-j) (j+1) (by omega) (show j+1≤ans.length by omega) ?_ .refl rfl
    refine ⟨rfl,rfl,rfl,?_,rfl,trivial⟩
    rw [show min (j+1) pre.length=j+1 by omega];rfl
   ·have hq:q=false:=by
     rw [htl,List.getElem?_append_right (by simpa using hjp)] at hy
     exact hfalse _ (List.mem_of_getElem? hy)
    subst hq
    repeat (first | (apply wo_po;apply cm_;exact rfl;exact rfl;omega;exact trivial) | (apply wo_po;apply fs_;exact rfl;exact rfl;omega;exact trivial) | (apply wo_po;apply bc_;exact rfl;exact ra;exact trivial) | (apply wo_po;apply bc_;exact rfl;exact r1;exact trivial) | refine wlssT ?_ | refine bb_ ?_ | (refine wR ?_;try simp only [oS]) | refine ba_ ?_ | refine wM ?_ | refine wA ?_ | refine wD ?_ | (apply wo_po;apply ge_;exact rfl;exact gY) | refine wadd ?_ | refine wE ?_ | refine wT ?_ | refine bk_ ?_ | refine bf_ ?_ | refine cu_ ?_)
    refine dr_ (I:=sx_ _ _ _ i ans.length pre.length L) (R:=fun k=>ans.length-k<ans.length-j) (j+1) (by omega) (show j+1≤ans.length by omega) ?_ .refl rfl
    refine ⟨rfl,rfl,rfl,?_,rfl,trivial⟩
    rw [show min (j+1) pre.length=min j pre.length by omega];rfl
  ·obtain rfl:j=ans.length:=by omega
   rw [show min ans.length pre.length=pre.length by omega]
   repeat (first | (apply wo_po;apply cm_;exact rfl;exact rfl;omega;exact trivial) | (apply wo_po;apply bc_;exact rfl;(first | exact ra | exact rg);exact trivial) | refine wlssF ?_ | refine wneqF ?_ | refine bb_ ?_ | (refine wR ?_;try simp only [oS]) | refine ba_ ?_ | refine wM ?_ | refine wA ?_ | refine wadd ?_ | refine wE ?_ | refine wF ?_ | refine bk_ ?_ | refine cu_ ?_)
   refine dr_ (I:=xs_ x _ _ anss.length L) (R:=fun k=>anss.length-k<anss.length-i) (i+1) (by omega) (show i+1≤anss.length by omega) ?_ .refl rfl
   exact ⟨rfl,rfl,rfl,trivial⟩
 obtain rfl:i=anss.length:=by omega
 repeat (first | refine wlssF ?_ | refine bb_ ?_ | (refine wR ?_;try simp only [oS]) | refine ba_ ?_ | refine wM ?_ | refine wA ?_ | refine wE ?_ | refine wF ?_ | refine bn_ ?_ | refine cu_ ?_)
 (first | refine or1 Try.func39 Try.results39 hQ rfl ?_ | refine on1 Try.func39 Try.results39 hQ rfl ?_)
 exact ⟨rfl,rfl,rfl⟩
end
end
end Go.Proofs.Ytnnpdmhmpgmpnaa
namespace Go.PB.Mach
section
def AnsOk (t:Th):Prop:=∃ (pre:List (List Nat)) (tail:List (Bool × List Nat)),t.ans=pre.map (fun w=>(true,w))++tail∧pre.length=t.call∧tail.length≤1∧∀ y∈tail,y.1=false
theorem wb_ {pre:List (List Nat)} {y:Bool × List Nat} {c:Nat} {g:Bool × List Nat→Bool × List Nat} (h:pre.length=c):(pre.map (fun w=>(true,w))++[y]).modify c g=pre.map (fun w=>(true,w))++[g y]:=by
 subst h
 induction pre with
 | nil=>rfl
 | cons a l ih=>simp only [List.map_cons,List.cons_append,List.length_cons,List.modify_succ_cons,ih]
theorem cdt {t:Th} (h:AnsOk t):∃ (pre:List (List Nat)) (y:Bool × List Nat),t.begun.ans=pre.map (fun w=>(true,w))++[y]∧pre.length=t.begun.call∧y.1=false:=by
 obtain ⟨pre,tail,e,hp,hl,hf⟩:=h
 unfold Th.begun
 match tail,hl with
 | [],_ =>
  rw [if_pos (by rw [e];simp [hp])]
  exact ⟨pre,(false,[]),by simp [e],hp,rfl⟩
 | [y],_ =>
  rw [if_neg (by rw [e];simp [hp])]
  exact ⟨pre,y,e,hp,hf y (by simp)⟩
theorem cjr {t:Th} {pre:List (List Nat)} {y:Bool × List Nat} (e:t.ans=pre.map (fun w=>(true,w))++[y]) (hp:pre.length=t.call):AnsOk t.done:=by
 refine ⟨pre++[y.2],[],?_,by simp [Th.done,hp],by simp,fun z hz=>by simp at hz⟩
 unfold Th.done
 simp only
 rw [e,wb_ hp]
 simp
theorem cmn {t:Th} {i:In} {pre:List (List Nat)} {y:Bool × List Nat} (e:t.ans=pre.map (fun w=>(true,w))++[y]) (hp:pre.length=t.call) (hy:y.1=false):AnsOk (own t i):=by
 have base:∀ u:Th,u.ans=t.ans→u.call=t.call→AnsOk u:=fun u h1 h2=>⟨pre,[y],by rw [h1,e],by rw [h2,hp],by simp,fun z hz=>by rw [List.mem_singleton.1 hz];exact hy⟩
 unfold own
 simp only
 split <;> first
  | exact base _ rfl rfl
  | (split <;> exact base _ rfl rfl)
  | skip
 ·refine ⟨pre,[(y.1,y.2++[t.r i.a])],?_,hp,by simp,fun z hz=>by rw [List.mem_singleton.1 hz];exact hy⟩
  unfold Th.tell
  simp only
  rw [e,wb_ hp]
theorem on_ok:∀ {f:Nat} {t t':Th},AnsOk t→onF f t=some t'→AnsOk t':=by
 intro f
 induction f with
 | zero=>intro t t' _ h;cases h
 | succ f ih =>
  intro t t' ha h
  unfold onF at h
  obtain ⟨pre,y,e,hp,hy⟩:=cdt ha
  split at h
  ·cases h;exact ha
  split at h
  ·cases h;exact ha
  split at h
  ·cases h;exact ⟨pre,[y],e,hp,by simp,fun z hz=>by rw [List.mem_singleton.1 hz];exact hy⟩
  split at h
  ·exact ih (cjr e hp) h
  ·exact ih (cmn e hp hy) h
theorem op_ok {f:Nat} {w w':Wd} {t t':Th} (ha:AnsOk t) (h:opF f w t=some (w',t')):AnsOk t':=by
 unfold opF at h
 split at h
 ·simp only [Option.map_eq_some_iff] at h
  obtain ⟨u,hu,e⟩:=h
  cases e
  exact on_ok (t:={ t with pc:=t.pc+1,r:=_ }) ha hu
 ·cases h
theorem sp_ {f:Nat} {s s':St} {k:Nat} (h:∀ t∈s.l,AnsOk t) (ht:turn f s k=some s'):∀ t∈s'.l,AnsOk t:=by
 unfold turn at ht
 split at ht
 ·rename_i t hk
  simp only [Option.map_eq_some_iff] at ht
  obtain ⟨y,hy,rfl⟩:=ht
  intro u hu
  rcases List.mem_or_eq_of_mem_set hu with hu | rfl
  ·exact h u hu
  ·exact op_ok (w':=y.1) (h t (List.mem_of_getElem? hk)) hy
 ·cases ht;exact h
theorem mr_ {f:Nat}:∀ {o:List (Option Nat)} {s s':St},(∀ t∈s.l,AnsOk t)→byOrder f s o=some s'→∀ t∈s'.l,AnsOk t
 | [],s,s',h,e=>by cases e;exact h
 | none::o,s,s',h,e=>mr_ (o:=o) h e
 | some k::o,s,s',h,e=>by
  unfold byOrder at e
  split at e
  ·cases ht:turn f s k with
   | none=>rw [ht] at e;cases e
   | some s1=>rw [ht] at e;exact mr_ (sp_ h ht) e
  ·exact mr_ h e
theorem sy_ {f:Nat}:∀ {m k:Nat} {s:St} {q:Bool} {y:St × Bool},(∀ t∈s.l,AnsOk t)→round f m k s q=some y→∀ t∈y.1.l,AnsOk t
 | 0,k,s,q,y,h,e=>by cases e;exact h
 | m+1,k,s,q,y,h,e=>by
  unfold round at e
  split at e
  ·cases ht:turn f s k with
   | none=>rw [ht] at e;cases e
   | some s1=>rw [ht] at e;exact sy_ (sp_ h ht) e
  ·exact sy_ h e
theorem bbb {f:Nat}:∀ {g:Nat} {s s':St},(∀ t∈s.l,AnsOk t)→rounds f g s=some s'→∀ t∈s'.l,AnsOk t
 | 0,s,s',h,e=>by cases e
 | g+1,s,s',h,e=>by
  unfold rounds at e
  cases hr:round f s.l.length 0 s false with
  | none=>rw [hr] at e;cases e
  | some y =>
   rw [hr,Option.bind_some] at e
   split at e
   ·exact bbb (sy_ h hr) e
   ·cases e;exact sy_ h hr
theorem bkk {f:Nat}:∀ {l l':List Th},(∀ t∈l,AnsOk t)→begin_ f l=some l'→∀ t∈l',AnsOk t
 | [],l',h,e=>by cases e;exact fun t ht=>by simp at ht
 | t::l,l',h,e=>by
  unfold begin_ at e
  cases ho:onF f t with
  | none=>rw [ho] at e;cases e
  | some u =>
   rw [ho,Option.bind_some] at e
   simp only [Option.map_eq_some_iff] at e
   obtain ⟨l1,h1,rfl⟩:=e
   intro v hv
   rcases List.mem_cons.1 hv with rfl | hv
   ·exact on_ok (h t (by simp)) ho
   ·exact bkk (fun w hw=>h w (by simp [hw])) h1 v hv
theorem play_ok {f g:Nat} {w:Wd} {o:List (Option Nat)} {l:List (List Cl)} {st:St} (h:play f g w o l=some st):∀ t∈st.l,AnsOk t:=by
 unfold play at h
 cases hb:begin_ f (l.map fun c=>{ calls:=c }) with
 | none=>rw [hb] at h;cases h
 | some l1 =>
  rw [hb,Option.bind_some] at h
  have h1:=bkk (fun t ht=>by
   obtain ⟨c,_,rfl⟩:=List.mem_map.1 ht
   exact ⟨[],[],rfl,rfl,by simp,fun y hy=>by simp at hy⟩) hb
  cases hbo:byOrder f ⟨w,l1,[]⟩ o with
  | none=>rw [hbo] at h;cases h
  | some s1 =>
   rw [hbo,Option.bind_some] at h
   exact bbb (mr_ (s:=⟨w,l1,[]⟩) h1 hbo) h
def AnsN (m:Nat) (t:Th):Prop:=t.ans.length≤m∧∀ y∈t.ans,y.2.length≤m
theorem AnsN.le {m m':Nat} {t:Th} (h:AnsN m t) (hm:m≤m'):AnsN m' t:=⟨Nat.le_trans h.1 hm,fun y hy=>Nat.le_trans (h.2 y hy) hm⟩
theorem yf_ {p:Bool × List Nat→Prop} {g:Bool × List Nat→Bool × List Nat} {l:List (Bool × List Nat)} {c:Nat} (h:∀ y∈l,p y∧p (g y)):∀ y∈l.modify c g,p y:=fun y hy=>by
 obtain ⟨i,hi⟩:=List.mem_iff_getElem?.1 hy
 rw [List.getElem?_modify] at hi
 obtain ⟨z,hz,rfl⟩:=Option.map_eq_some_iff.1 hi
 have:=h z (List.mem_of_getElem? hz)
 split
 ·exact this.2
 ·exact this.1
theorem ckb {m:Nat} {t:Th} (h:AnsN m t):t.begun.ans.length≤m+1∧∀ y∈t.begun.ans,y.2.length≤m:=by
 unfold Th.begun
 split
 ·refine ⟨by simp [h.1],fun y hy=>?_⟩
  rcases List.mem_append.1 hy with hy | hy
  ·exact h.2 y hy
  ·rw [List.mem_singleton.1 hy];exact Nat.zero_le _
 ·exact ⟨Nat.le_succ_of_le h.1,h.2⟩
theorem own_n {m:Nat} {t:Th} {i:In} (h:t.ans.length≤m+1∧∀ y∈t.ans,y.2.length≤m):AnsN (m+1) (own t i):=by
 have base:∀ u:Th,u.ans=t.ans→AnsN (m+1) u:=fun u h1=>⟨h1▸h.1,fun y hy=>Nat.le_succ_of_le (h.2 y (h1▸hy))⟩
 unfold own
 simp only
 split <;> first
  | exact base _ rfl
  | (split <;> exact base _ rfl)
  | skip
 refine ⟨by unfold Th.tell;simpa using h.1,?_⟩
 unfold Th.tell
 refine yf_ (p:=fun y=>y.2.length≤m+1) fun y hy=>⟨Nat.le_succ_of_le (h.2 y hy),?_⟩
 simpa using h.2 y hy
theorem cnd {m:Nat} {t:Th} (h:t.ans.length≤m+1∧∀ y∈t.ans,y.2.length≤m):AnsN (m+1) t.done:=by
 refine ⟨by unfold Th.done;simpa using h.1,?_⟩
 unfold Th.done
 exact yf_ (p:=fun y=>y.2.length≤m+1) fun y hy=>⟨Nat.le_succ_of_le (h.2 y hy),Nat.le_succ_of_le (h.2 y hy)⟩
theorem on_n:∀ {f m:Nat} {t t':Th},AnsN m t→onF f t=some t'→AnsN (m+f) t':=by
 intro f
 induction f with
 | zero=>intro m t t' _ h;cases h
 | succ f ih =>
  intro m t t' ha h
  unfold onF at h
  have hb:=ckb ha
  split at h
  ·cases h;exact ha.le (by omega)
  split at h
  ·cases h;exact AnsN.le (t:={ t with over:=true }) ha (by omega)
  split at h
  ·cases h;exact ⟨by have:=hb.1;omega,fun y hy=>by have:=hb.2 y hy;omega⟩
  split at h
  ·exact (ih (cnd hb) h).le (by omega)
  ·exact (ih (own_n hb) h).le (by omega)
theorem op_n {f m:Nat} {w w':Wd} {t t':Th} (ha:AnsN m t) (h:opF f w t=some (w',t')):AnsN (m+f) t':=by
 unfold opF at h
 split at h
 ·simp only [Option.map_eq_some_iff] at h
  obtain ⟨u,hu,e⟩:=h
  cases e
  exact on_n (t:={ t with pc:=t.pc+1,r:=_ }) ha hu
 ·cases h
def StN (f:Nat) (s:St):Prop:=∀ t∈s.l,AnsN (f*(s.tr.length+1)) t
theorem bzk {f:Nat} {s s':St} {k:Nat} (h:StN f s) (ht:turn f s k=some s'):StN f s':=by
 unfold turn at ht
 split at ht
 ·rename_i t hk
  simp only [Option.map_eq_some_iff] at ht
  obtain ⟨y,hy,rfl⟩:=ht
  intro u hu
  show AnsN (f*((s.tr++[(k,t.mark)]).length+1)) u
  have e:f*((s.tr++[(k,t.mark)]).length+1)=f*(s.tr.length+1)+f:=by rw [List.length_append];show f*(s.tr.length+1+1)=_;rw [Nat.mul_succ]
  rw [e]
  rcases List.mem_or_eq_of_mem_set hu with hu | rfl
  ·exact (h u hu).le (by omega)
  ·exact op_n (w':=y.1) (h t (List.mem_of_getElem? hk)) hy
 ·cases ht;exact h
theorem qi_ {f:Nat}:∀ {o:List (Option Nat)} {s s':St},StN f s→byOrder f s o=some s'→StN f s'
 | [],s,s',h,e=>by cases e;exact h
 | none::o,s,s',h,e=>qi_ (o:=o) h e
 | some k::o,s,s',h,e=>by
  unfold byOrder at e
  split at e
  ·cases ht:turn f s k with
   | none=>rw [ht] at e;cases e
   | some s1=>rw [ht] at e;exact qi_ (bzk h ht) e
  ·exact qi_ h e
theorem wq_ {f:Nat}:∀ {m k:Nat} {s:St} {q:Bool} {y:St × Bool},StN f s→round f m k s q=some y→StN f y.1
 | 0,k,s,q,y,h,e=>by cases e;exact h
 | m+1,k,s,q,y,h,e=>by
  unfold round at e
  split at e
  ·cases ht:turn f s k with
   | none=>rw [ht] at e;cases e
   | some s1=>rw [ht] at e;exact wq_ (bzk h ht) e
  ·exact wq_ h e
theorem bhh {f:Nat}:∀ {g:Nat} {s s':St},StN f s→rounds f g s=some s'→StN f s'
 | 0,s,s',h,e=>by cases e
 | g+1,s,s',h,e=>by
  unfold rounds at e
  cases hr:round f s.l.length 0 s false with
  | none=>rw [hr] at e;cases e
  | some y =>
   rw [hr,Option.bind_some] at e
   split at e
   ·exact bhh (wq_ h hr) e
   ·cases e;exact wq_ h hr
theorem brz {f:Nat}:∀ {l l':List Th},(∀ t∈l,AnsN 0 t)→begin_ f l=some l'→∀ t∈l',AnsN f t
 | [],l',h,e=>by cases e;exact fun t ht=>by simp at ht
 | t::l,l',h,e=>by
  unfold begin_ at e
  cases ho:onF f t with
  | none=>rw [ho] at e;cases e
  | some u =>
   rw [ho,Option.bind_some] at e
   simp only [Option.map_eq_some_iff] at e
   obtain ⟨l1,h1,rfl⟩:=e
   intro v hv
   rcases List.mem_cons.1 hv with rfl | hv
   ·have:=on_n (h t (by simp)) ho
    rwa [Nat.zero_add] at this
   ·exact brz (fun w hw=>h w (by simp [hw])) h1 v hv
theorem play_n {f g:Nat} {w:Wd} {o:List (Option Nat)} {l:List (List Cl)} {st:St} (h:play f g w o l=some st):StN f st:=by
 unfold play at h
 cases hb:begin_ f (l.map fun c=>{ calls:=c }) with
 | none=>rw [hb] at h;cases h
 | some l1 =>
  rw [hb,Option.bind_some] at h
  have h1:StN f ⟨w,l1,[]⟩:=fun t ht=>by
   have:=brz (fun t ht=>by
    obtain ⟨c,_,rfl⟩:=List.mem_map.1 ht
    exact ⟨Nat.le_refl 0,fun y hy=>by simp at hy⟩) hb t ht
   exact this.le (by show f≤f*(0+1);omega)
  cases hbo:byOrder f ⟨w,l1,[]⟩ o with
  | none=>rw [hbo] at h;cases h
  | some s1 =>
   rw [hbo,Option.bind_some] at h
   exact bhh (qi_ h1 hbo) h
end
end Go.PB.Mach
namespace Go.PB
open Go
section
def Dup (c:HProp):Prop:=∀ (L:List HProp) (h:Hp),Star (c::L) h→Star (c::c::L) h
theorem tn_ {b o:Nat} {vs:List Value}:Dup (fro b o vs):=fun L h s=>bdr s
theorem ccw {W:World}:Dup (base W):=fun L h s=>by
 obtain ⟨h1,h2,s1,ha,hL⟩:=s
 exact ⟨⟨fun _ _=>none,h1.ro,fun _=>none,fun _=>none⟩,h,⟨fun _ _ _ e=>s1.r1 _ _ _ e,fun _ _ _ e=>e,fun _ _ _ e=>by simp at e,fun _ _ _ e=>e,fun _ _=>.inl rfl,fun _ _ e=>by simp at e,fun _ _ e=>e,fun _=>.inl rfl,fun _ _ e=>by simp at e,fun _ _ e=>e⟩,ha,h1,h2,s1,ha,hL⟩
theorem ps_ {c:HProp} {M L:List HProp} {h:Hp} (s:Star (all (c::M)::L) h):Star (c::all M::L) h :=
 bm_ (ci_ (M:=c::M) s) (fun _ z=>z) fun _ z=>bv_ z
theorem ki_ {c:HProp} {M L:List HProp} {h:Hp} (s:Star (c::all M::L) h):Star (all (c::M)::L) h :=
 bv_ (M:=c::M) (bm_ s (fun _ z=>z) fun _ z=>ci_ z)
theorem bdw:∀ {M:List HProp},(∀ c∈M,Dup c)→Dup (all M)
 | [],_=>fun L h s=>bv_ (M:=[]) s
 | c::M,hM=>fun L h s=>by
  have s1:=hM c (by simp) _ _ (ps_ s)
  have s2:Star (all M::c::c::L) h:=Ent.star (.take (.there (.there .here)) (.take .here (.take .here .refl))) s1
  have s3:=bdw (fun d hd=>hM d (by simp [hd])) _ _ s2
  have s4:Star (c::all M::c::all M::L) h:=Ent.star (.take (.there (.there .here)) (.take .here (.take (.there .here) (.take .here .refl)))) s3
  exact ki_ (bm_ s4 (fun _ z=>z) fun _ z=>bm_ z (fun _ z=>z) fun _ z=>ki_ z)
theorem bjz {c:HProp} (hc:Dup c) {L:List HProp} {h:Hp} (s:Star (c::L) h):∀ n,Star (all (List.replicate n c)::c::L) h
 | 0=>bv_ (M:=[]) s
 | n+1=>by
  have s1:=bjz hc s n
  have s2:=hc _ _ (cx_ s1)
  have s3:Star (c::all (List.replicate n c)::c::L) h:=Ent.star (.take .here (.take (.there .here) (.take .here .refl))) s2
  rw [List.replicate_succ]
  exact ki_ s3
theorem xk_:∀ {As Bs L:List HProp} {h:Hp},As.length=Bs.length→Star (all As::all Bs::L) h→Star (all (List.zipWith (fun a b=>all [a,b]) As Bs)::L) h
 | [],[],L,h,_,s=>bv_ (M:=[]) (bs_ (bs_ s))
 | [],b::Bs,L,h,e,s=>by simp at e
 | a::As,[],L,h,e,s=>by simp at e
 | a::As,b::Bs,L,h,e,s=>by
  have s1:=ps_ s
  have s2:Star (all (b::Bs)::a::all As::L) h:=Ent.star (.take (.there (.there .here)) (.take .here (.take .here .refl))) s1
  have s3:=ps_ s2
  have s4:Star (all As::all Bs::a::b::L) h:=Ent.star (.take (.there (.there (.there .here))) (.take (.there .here) (.take (.there .here) (.take .here .refl)))) s3
  have s5:=xk_ (by simpa using e) s4
  have s6:Star (a::b::all (List.zipWith (fun a b=>all [a,b]) As Bs)::L) h:=Ent.star (.take (.there .here) (.take (.there .here) (.take .here .refl))) s5
  exact ki_ (bv_ (M:=[_,_]) s6)
theorem bkr:∀ {As Bs L:List HProp} {h:Hp},As.length=Bs.length→(∀ (i:Nat) a b,As[i]?=some a→Bs[i]?=some b→∀ h,a h→b h)→Star (all As::L) h→Star (all Bs::L) h
 | [],[],L,h,_,_,s=>s
 | [],b::Bs,L,h,e,_,s=>by simp at e
 | a::As,[],L,h,e,_,s=>by simp at e
 | a::As,b::Bs,L,h,e,m,s=>by
  have s1:=ps_ s
  refine ki_ (bm_ s1 (m 0 a b rfl rfl) fun h z=>?_)
  exact bkr (by simpa using e) (fun i a b ha hb=>m (i+1) a b ha hb) z
theorem tz_:∀ {M L:List HProp} {h:Hp},Star (M++L) h→Star (all L::M) h
 | [],L,h,s=>bv_ (L:=[]) (by rw [List.append_nil];exact s)
 | c::M,L,h,s=>cx_ (bm_ (L:=M++L) s (fun _ z=>z) fun _ z=>tz_ z)
theorem bsh {n:Nat} {v:Value}:zeros n [v]=List.replicate n v:=by
 unfold zeros
 induction n with
 | zero=>rfl
 | succ n ih=>rw [List.replicate_succ,List.flatten_cons,ih,List.replicate_succ];rfl
end
end Go.PB
namespace Go.Proofs.Ytnnpdmhmpgmpnaa
open Go Go.PB
attribute [local irreducible] Mo Bin Eql Tr Wo Ap Wle
section
def gotC (gb k:Nat) (pre:List (List Nat)):HProp:=fun h=>∃ y:Value × List (Value × List Nat),y.2.map (·.2)=pre∧all [arr gb k [y.1],vec 1 y.1 (y.2.map (·.1)),all (y.2.map rowT)] h
def hy_ (t:Mach.Th):List (List Nat):=(t.ans.filter (·.1)).map (·.2)
def rgPv (gb:Nat) (q:Nat × Mach.Th):HProp:=fun h=>Star [gotC gb q.1 (hy_ q.2)] h
theorem sz_ {gb:Nat}:∀ q h,Star [rgPv gb q] h→rgPv gb q h:=fun q h st=>ci_ (M:=[_]) st
def yesA (pre:List (List Nat)):List (Bool × List Nat):=pre.map fun w=>(true,w)
theorem bxd {pre:List (List Nat)}:(yesA pre).length=pre.length:=by simp [yesA]
theorem bsj {pre:List (List Nat)} {w:List Nat}:yesA pre++[(true,w)]=yesA (pre++[w]):=by simp [yesA]
theorem sf_ {pre:List (List Nat)}:((yesA pre).filter (·.1)).map (·.2)=pre:=by
 induction pre with
 | nil=>rfl
 | cons a l ih=>simp only [yesA,List.map_cons] at ih ⊢;simp [List.filter_cons,ih]
theorem ccz {cs:List Mach.Cl} {c p:Nat} {r:Nat→Nat} {pre:List (List Nat)} {said:List Nat}:hy_ (Mach.T cs c p r (yesA pre) said)=pre:=by
 unfold hy_ Mach.T
 simp only [List.filter_append,List.map_append,sf_]
 simp
theorem cgq {t:Mach.Th} (h:Mach.AnsOk t):Told t.ans (hy_ t):=by
 obtain ⟨pre,tail,e,hp,hl,hf⟩:=h
 have h1:tail.filter (·.1)=[]:=List.filter_eq_nil_iff.2 fun y hy=>by rw [hf y hy];decide
 have h2:hy_ t=pre:=by
  unfold hy_
  rw [e,List.filter_append,h1,List.append_nil]
  exact sf_
 rw [h2]
 exact ⟨tail,e,hf⟩
theorem gg_ {M L:List HProp} {b o:Nat} {v:Value} (r:Rd M b o v):Rd (all M::L) b o v:=fun h s =>
 r h (bs_ (tz_ (ci_ s)))
theorem bhp {L F:List HProp} {a:Option Addr} {n c:Nat} {cs:List Value} (hh:Has L (vec 1 (.slice a n c) cs) F) (hn:cs.length=n*1) (hz:a=none→n=0) (hy:∀ y,a=some y→y=⟨y.block,y.off,none⟩):RdsO L a n cs:=by
 refine ⟨by omega,?_⟩
 cases a with
 | none=>exact .inl (hz rfl)
 | some y =>
  obtain ⟨b,o,sp⟩:=y
  cases hy _ rfl
  exact .inr ⟨b,o,rfl,fun i v hi=>df_ hh hi⟩
theorem bfq {Y:Type}:∀ {M:List HProp} {C:Nat→Y→HProp} {Q:Nat→Y→Prop} (hM:∀ (k:Nat) c,M[k]?=some c→∀ h,c h→∃ y,Q k y∧C k y h) {L:List HProp} {h:Hp},Star (all M::L) h →
  ∃ ys:List Y,(ys.length=M.length∧∀ (k:Nat) y,ys[k]?=some y→Q k y)∧Star (all (ys.mapIdx C)::L) h
 | [],C,Q,hM,L,h,s=>⟨[],⟨rfl,fun k y hy=>by simp at hy⟩,s⟩
 | c::M,C,Q,hM,L,h,s=>by
  obtain ⟨h1,h2,sp,hc,hr⟩:=ps_ s
  obtain ⟨y,hq,hy⟩:=hM 0 c rfl h1 hc
  obtain ⟨ys,⟨hl,hQ⟩,hs⟩:=bfq (C:=fun k=>C (k+1)) (Q:=fun k=>Q (k+1)) (fun k c hk=>hM (k+1) c hk) hr
  refine ⟨y::ys,⟨by simp [hl],fun k z hz=>?_⟩,?_⟩
  ·cases k with
   | zero=>cases hz;exact hq
   | succ k=>exact hQ k z hz
  ·rw [List.mapIdx_cons]
   exact ki_ ⟨h1,h2,sp,hy,hs⟩
theorem chf {M L:List HProp} {c:HProp} {k b o:Nat} {v:Value} (e:M[k]?=some c) (r:Rd [c] b o v):Rd (all M::L) b o v:=fun h s=>by
 obtain ⟨h1,h2,sp,hc,hr⟩:=PB.star_pick e s
 exact (Rd.of (R:=all (M.eraseIdx k)::L) .here r) h ⟨h1,h2,sp,hc,hr⟩
def Shp (v:Value) (n:Nat):Prop:=∃ a c,v=.slice a n c∧(a=none→n=0)∧∀ y,a=some y→y=⟨y.block,y.off,none⟩
theorem bqv {v:Value} {cs:List Value} {h:Hp} (hv:vec 1 v cs h):Shp v cs.length:=by
 obtain ⟨a,n,c,rfl,hn,_,hz,hy⟩:=bg_ (by omega) h hv
 obtain rfl:n=cs.length:=by omega
 exact ⟨a,c,rfl,hz,hy⟩
theorem bgz {ι:Type} {f:ι→Value × List Nat} {l:List ι} {h:Hp} (s:all (l.map fun y=>vec 1 (f y).1 ((f y).2.map num)) h):∀ z∈l,Shp (f z).1 (f z).2.length:=fun z hz=>by
 obtain ⟨i,hi⟩:=List.mem_iff_getElem?.1 hz
 have s1:Star (all (l.map fun y=>vec 1 (f y).1 ((f y).2.map num))::[]) h:=pb_ s
 obtain ⟨h1,h2,sp,hc,hr⟩:=PB.star_pick (i:=i) (c:=vec 1 (f z).1 ((f z).2.map num)) (by rw [List.getElem?_map,hi];rfl) s1
 have:=bqv hc
 simpa using this
def gotY (gb k:Nat) (y:Value × List (Value × List Nat)):HProp:=all [arr gb k [y.1],vec 1 y.1 (y.2.map (·.1)),all (y.2.map rowT)]
def GotQ (l:List (List (List Nat))) (k:Nat) (y:Value × List (Value × List Nat)):Prop:=l[k]?=some (y.2.map (·.2))∧Shp y.1 y.2.length∧∀ z∈y.2,Shp z.1 z.2.length
theorem cjb {gb:Nat} {l:List Mach.Th} {L:List HProp} {h:Hp} (s:Star (all (l.mapIdx fun k t=>rgPv gb (k,t))::L) h) :
  ∃ ys:List (Value × List (Value × List Nat)),(ys.length=l.length∧∀ (k:Nat) y,ys[k]?=some y→GotQ (l.map hy_) k y)∧Star (all (ys.mapIdx (gotY gb))::L) h:=by
 obtain ⟨ys,⟨h1,h2⟩,h3⟩:=bfq (C:=gotY gb) (Q:=GotQ (l.map hy_)) (fun k c hk h hc=>by
  rw [List.getElem?_mapIdx,Option.map_eq_some_iff] at hk
  obtain ⟨t,ht,rfl⟩:=hk
  obtain ⟨h1,h2,sp,⟨y,hy,hc⟩,_⟩:=hc
  have sg:gotY gb k y h1:=hc
  have hh:=sz_ (gb:=gb) (k,t)
  refine ⟨y,⟨?_,?_,?_⟩,?_⟩
  ·rw [List.getElem?_map,ht,hy];rfl
  ·obtain ⟨g1,g2,sp1,_,g3,g4,sp2,hv,_⟩:=hc
   simpa using bqv hv
  ·obtain ⟨g1,g2,sp1,_,g3,g4,sp2,hv,g5,g6,sp3,hr,_⟩:=hc
   exact bgz (f:=fun y:Value × List Nat=>y) hr
  ·have s1:Star (gotY gb k y::[]) h:=⟨h1,h2,sp,sg,‹_›⟩
   exact ci_ (M:=[_,_,_]) s1) s
 exact ⟨ys,⟨by simpa using h1,h2⟩,h3⟩
theorem Rd.deep {M L F:List HProp} {c:HProp} {k b o:Nat} {v:Value} (hh:Has L (all M) F) (e:M[k]?=some c) (r:Rd [c] b o v):Rd L b o v:=Rd.of hh (chf e r)
theorem cjc {gb:Nat} {l:List (List (List Nat))} {ys:List (Value × List (Value × List Nat))} {L F:List HProp} (hh:Has L (all (ys.mapIdx (gotY gb))) F) (hl:ys.length=l.length) (hq:∀ (k:Nat) y,ys[k]?=some y→GotQ l k y):bqd L (some ⟨gb,0,none⟩) l:=fun k pre hk=>by
 have hlt:=(List.getElem?_eq_some_iff.1 hk).1
 obtain ⟨y,hy⟩:∃ y,ys[k]?=some y:=⟨ys[k]'(by omega),List.getElem?_eq_getElem _⟩
 obtain ⟨q1,⟨a,c,ev,hz,hs⟩,q3⟩:=hq k y hy
 rw [hk] at q1
 obtain rfl:pre=y.2.map (·.2):=by simpa using q1
 have e:(ys.mapIdx (gotY gb))[k]?=some (gotY gb k y):=by rw [List.getElem?_mapIdx,hy];rfl
 refine ⟨gb,0,y.1,rfl,Rd.deep hh e (gg_ (Rd.row (k:=0) rfl (by omega))),a,c,by rw [ev];simp,fun j ws hj=>?_⟩
 rw [List.getElem?_map,Option.map_eq_some_iff] at hj
 obtain ⟨z,hz1,rfl⟩:=hj
 obtain ⟨a',c',ev',hz',hs'⟩:=q3 z (List.mem_of_getElem? hz1)
 have hjl:=(List.getElem?_eq_some_iff.1 hz1).1
 cases a with
 | none=>have:=hz rfl;omega
 | some w =>
  obtain ⟨b,o,sp⟩:=w
  cases hs _ rfl
  refine ⟨b,o,a',c',rfl,?_,fun i v hi=>?_⟩
  ·refine Rd.deep hh e (gg_ (M:=[_,_,_]) (df_ (cs:=y.2.map (·.1)) (by rw [ev];exact (.there .here)) ?_))
   rw [List.getElem?_map,hz1,← ev'];rfl
  ·cases a' with
   | none=>have:=hz' rfl;have:=(List.getElem?_eq_some_iff.1 hi).1;omega
   | some w' =>
    obtain ⟨b',o',sp'⟩:=w'
    cases hs' _ rfl
    have e2:(y.2.map rowT)[j]?=some (rowT z):=by rw [List.getElem?_map,hz1];rfl
    refine ⟨b',o',rfl,Rd.deep hh e (gg_ (M:=[_,_,_]) (Rd.deep (.there (.there .here)) e2 (df_ (n:=z.2.length) (sz:=1) (c:=c') (F:=[]) (cs:=z.2.map num) ?_ (by rw [List.getElem?_map,hi];rfl))))⟩
    have:rowT z=vec 1 (.slice (some ⟨b',o',none⟩) z.2.length c') (z.2.map num):=by unfold rowT;rw [ev']
    rw [this]
    exact .here
def ansY (_k:Nat) (y:Value × List (Bool × Value × List Nat)):HProp:=all [vec 2 y.1 (y.2.map ansV).flatten,all (y.2.map ansT)]
def AnsQ (os:List (Value × List (Bool × List Nat))) (k:Nat) (y:Value × List (Bool × Value × List Nat)):Prop:=os[k]?=some (y.1,y.2.map ansOf)∧Shp y.1 y.2.length∧∀ z∈y.2,Shp z.2.1 z.2.2.length
theorem ckn {os:List (Value × List (Bool × List Nat))} {L:List HProp} {h:Hp} (s:Star (all (os.map ansK)::L) h) :
  ∃ ys:List (Value × List (Bool × Value × List Nat)),(ys.length=os.length∧∀ (k:Nat) y,ys[k]?=some y→AnsQ os k y)∧Star (all (ys.mapIdx ansY)::L) h:=by
 obtain ⟨ys,⟨h1,h2⟩,h3⟩:=bfq (C:=ansY) (Q:=AnsQ os) (fun k c hk h hc=>by
  rw [List.getElem?_map,Option.map_eq_some_iff] at hk
  obtain ⟨y,hy,rfl⟩:=hk
  obtain ⟨al,hal,hc⟩:=hc
  refine ⟨(y.1,al),⟨?_,?_,?_⟩,hc⟩
  ·rw [hy,hal]
  ·obtain ⟨g1,g2,sp1,hv,_⟩:=hc
   obtain ⟨a,n,c,e,hn,_,hz,hs⟩:=bg_ (by omega) _ hv
   obtain rfl:n=al.length:=by rw [gy_ (k:=2) (fun _=>rfl)] at hn;omega
   exact ⟨a,c,e,hz,hs⟩
  ·obtain ⟨g1,g2,sp1,hv,g5,g6,sp3,hr,_⟩:=hc
   exact bgz (f:=fun y:Bool × Value × List Nat=>y.2) hr) s
 exact ⟨ys,⟨by simpa using h1,h2⟩,h3⟩
theorem ckp {os:List (Value × List (Bool × List Nat))} {ys:List (Value × List (Bool × Value × List Nat))} {a:Option Addr} {n c:Nat} {L F F':List HProp} (hv:Has L (vec 1 (.slice a n c) (os.map (·.1))) F') (hn:(os.map (·.1)).length=n*1) (hz:a=none→n=0) (hs:∀ y,a=some y→y=⟨y.block,y.off,none⟩)
  (hh:Has L (all (ys.mapIdx ansY)) F) (hl:ys.length=os.length) (hq:∀ (k:Nat) y,ys[k]?=some y→AnsQ os k y):bqf L a (os.map (·.2)):=fun k ans hk=>by
 have hlt:=(List.getElem?_eq_some_iff.1 hk).1
 simp only [List.length_map] at hlt hn
 obtain ⟨y,hy⟩:∃ y,ys[k]?=some y:=⟨ys[k]'(by omega),List.getElem?_eq_getElem _⟩
 obtain ⟨q1,⟨ya,yc,ev,yz,yh⟩,q3⟩:=hq k y hy
 rw [List.getElem?_map,q1] at hk
 obtain rfl:ans=y.2.map ansOf:=by simpa using hk.symm
 have e:(ys.mapIdx ansY)[k]?=some (ansY k y):=by rw [List.getElem?_mapIdx,hy];rfl
 cases a with
 | none=>have:=hz rfl;omega
 | some w =>
  obtain ⟨b,o,sp⟩:=w
  cases hs _ rfl
  refine ⟨b,o,y.1,rfl,df_ hv (by rw [List.getElem?_map,q1];rfl),ya,yc,by rw [ev];simp,fun j q hj=>?_⟩
  rw [List.getElem?_map,Option.map_eq_some_iff] at hj
  obtain ⟨z,hz1,rfl⟩:=hj
  obtain ⟨a',c',ev',hz',hs'⟩:=q3 z (List.mem_of_getElem? hz1)
  have hjl:=(List.getElem?_eq_some_iff.1 hz1).1
  cases ya with
  | none=>have:=yz rfl;omega
  | some w =>
   obtain ⟨b1,o1,sp⟩:=w
   cases yh _ rfl
   have hf:∀ i,i<2→((y.2.map ansV).flatten)[2*j+i]?=(ansV z)[i]?:=fun i hi=>kh_ (f:=ansV) (k:=2) (fun _=>rfl) _ _ _ _ hz1 hi
   refine ⟨b1,o1,a',c',rfl,?_,?_,fun i v hi=>?_⟩
   ·exact Rd.deep hh e (gg_ (M:=[_,_]) (df_ (i:=2*j) (cs:=(y.2.map ansV).flatten) (by rw [ev];exact .here) (hf 0 (by omega))))
   ·have:=Rd.deep (b:=b1) (o:=o1+(2*j+1)) (v:=z.2.1) hh e (gg_ (M:=[_,_]) (df_ (i:=2*j+1) (cs:=(y.2.map ansV).flatten) (by rw [ev];exact .here) (hf 1 (by omega))))
    rw [ev',← Nat.add_assoc] at this
    exact this
   ·cases a' with
    | none=>have:=hz' rfl;have:=(List.getElem?_eq_some_iff.1 hi).1;simp only [ansOf] at this;omega
    | some w' =>
     obtain ⟨b',o',sp'⟩:=w'
     cases hs' _ rfl
     have e2:(y.2.map ansT)[j]?=some (ansT z):=by rw [List.getElem?_map,hz1];rfl
     refine ⟨b',o',rfl,Rd.deep hh e (gg_ (M:=[_,_]) (Rd.deep (.there .here) e2 (df_ (n:=z.2.2.length) (sz:=1) (c:=c') (F:=[]) (cs:=z.2.2.map num) ?_ (by rw [List.getElem?_map];simp only [ansOf] at hi;rw [hi];rfl))))⟩
     have:ansT z=vec 1 (.slice (some ⟨b',o',none⟩) z.2.2.length c') (z.2.2.map num):=by unfold ansT;rw [ev']
     rw [this]
     exact .here
theorem bmf:∀ {l:List (Nat × Nat × Nat)},(l.map trC).flatten=trCP (l.map fun e=>(e.1,mkII e.2))
 | []=>rfl
 | e::l=>by
  have:=bmf (l:=l)
  simp only [List.map_cons,List.flatten_cons,trCP,this]
  rfl
theorem bhn {L F:List HProp} {a:Option Addr} {n c:Nat} {tr:List (Nat × (Int × Int))} (hh:Has L (vec 3 (.slice a n c) (trCP tr)) F) (hn:tr.length=n) (hz:a=none→n=0) (hs:∀ y,a=some y→y=⟨y.block,y.off,none⟩):RdTr L a tr:=fun i t hi=>by
 have hlt:=(List.getElem?_eq_some_iff.1 hi).1
 cases a with
 | none=>have:=hz rfl;omega
 | some w =>
  obtain ⟨b,o,sp⟩:=w
  cases hs _ rfl
  refine ⟨b,o,rfl,fun j v hj=>?_⟩
  have hjl:=(List.getElem?_eq_some_iff.1 hj).1
  rw [Nat.add_assoc]
  refine df_ hh ?_
  exact (kh_ (f:=fun t:Nat × (Int × Int)=>[Value.int .i64 (t.1:Nat),.int .u8 t.2.1,.int .i64 t.2.2]) (k:=3) (fun _=>rfl) _ _ _ _ hi (by simpa using hjl)).trans hj
theorem cng {st:Mach.St}:(Mach.St.cut st).length≤st.l.length:=by
 unfold Mach.St.cut
 exact Nat.le_trans (List.length_filter_le _ _) (by simp)
theorem bgs {ι:Type} {P:ι→Prop} {c:ι→HProp} {L:List HProp} {h:Hp} (s:∃ y,P y∧Star (c y::L) h):Star ((fun h=>∃ y,P y∧c y h)::L) h:=by
 obtain ⟨y,hp,h1,h2,sp,hc,hr⟩:=s
 exact ⟨h1,h2,sp,⟨y,hp,hc⟩,hr⟩
theorem bqx {L F:List HProp} {a:Option Addr} {n c:Nat} {l:List Nat} (hh:Has L (vec 1 (.slice a n c) (cutC l)) F) (hn:l.length=n) (hz:a=none→n=0) (hs:∀ y,a=some y→y=⟨y.block,y.off,none⟩):RdI L a l:=fun i t hi=>by
 have hlt:=(List.getElem?_eq_some_iff.1 hi).1
 cases a with
 | none=>have:=hz rfl;omega
 | some w =>
  obtain ⟨b,o,sp⟩:=w
  cases hs _ rfl
  exact ⟨b,o,rfl,df_ hh (by unfold cutC;rw [List.getElem?_map,hi];rfl)⟩
end
section
structure ThRo (Ro:HProp) (p8 ib rb gt qb qo nt qc gb gc k r b pp:Nat) (a:Option Addr) (c:Nat) (l:List (Int × Nat × Bool)):Prop where
 h1:Rd [Ro] p8 0 (.slice (some ⟨qb,qo,none⟩) nt qc)
 h2:Rd [Ro] qb (qo+k) (.slice a l.length c)
 h3:∀ (i:Nat) y,l[i]?=some y→∃ b o,a=some ⟨b,o,none⟩∧Rds [Ro] b (o+3*i) [.int .i64 y.1,.int .u64 (y.2.1:Nat),.bool y.2.2]
 h4:Rd [Ro] ib 0 (.int .i64 (k:Nat))
 h5:Rd [Ro] rb 0 (.pointer (some ⟨pp,0,none⟩))
 h7:Rd [Ro] pp 0 (.pointer (some ⟨r,0,none⟩))
 h8:Rd [Ro] pp (0+1) (.pointer (some ⟨b,0,none⟩))
 h6:Rd [Ro] gt 0 (.slice (some ⟨gb,0,none⟩) nt gc)
 hk:k<nt
 hl:l.length≤8
 ok:∀ y∈l,(-9223372036854775808≤y.1∧y.1≤9223372036854775807)∧y.2.1<18446744073709551616
def ga_ (limit fails wait:Nat) (l:List (Int × Nat × Bool)):List Mach.Cl:=l.map fun y=>fr_ limit fails wait y.1 (y.2.1%1099511627777) y.2.2
theorem kw_ {limit fails wait:Nat} {l:List (Int × Nat × Bool)}:gz_ limit fails wait (ga_ limit fails wait l):=fun i cl hi=>by
 simp only [ga_,List.getElem?_map,Option.map_eq_some_iff] at hi
 obtain ⟨y,hy,rfl⟩:=hi
 exact ⟨_,_,_,by omega,rfl⟩
def dd_ (r b:Nat) (w:Nat):Nat × Nat:=if w<2 then (r,1+w) else (b,2)
def gbK (r b limit fails wait:Nat):List (Nat × Nat × Value):=[(r,0,.int .u64 (limit:Nat)),(b,0,.int .u64 (fails:Nat)),(b,1,.int .u64 (wait:Nat))]
theorem pk_ {r b:Nat} (h:r≠b) (limit fails wait:Nat):Apart (dd_ r b) 3 (gbK r b limit fails wait) where
 inj:=fun i j hi hj e=>by
  unfold dd_ at e
  split at e <;> split at e <;> simp only [Prod.mk.injEq] at e <;> omega
 fix:=fun i hi k hk=>by
  unfold dd_
  simp only [gbK,List.mem_cons,List.not_mem_nil,or_false] at hk
  split <;> rcases hk with rfl | rfl | rfl <;> simp <;> omega
section
variable {limit fails wait r b pp gb k:Nat} {sb says turn fin wg:Nat}
abbrev vp_ (limit fails wait r b gb:Nat):Game:=wG gD (dd_ r b) 3 (gbK r b limit fails wait) (all []) (rgPv gb)
abbrev ccp (limit fails wait r b sb says turn fin gb k:Nat) (pre:List (List Nat)) (f:Nat→Nat):HProp:=plC (dd_ r b) 3 (gbK r b limit fails wait) (all []) sb says turn fin (gotC gb k pre) f
theorem rd_gK {s:Nat→Nat} {L:List HProp}:∀ y∈gbK r b limit fails wait,Rd (wds (dd_ r b) 3 (gbK r b limit fails wait) s::L) y.1 y.2.1 y.2.2:=fun y hy h hs=>by
 obtain ⟨h1,h2,s1,hc,_⟩:=hs
 exact ⟨rfl,.inl (s1.o1 _ _ _ (hc.2 y hy))⟩
theorem bpf {M:HProp} (O:GOk limit fails wait) (hne:r≠b):GaugeAt (hv_ gD (dd_ r b) 3 (gbK r b limit fails wait) (pk_ hne limit fails wait) (all []) (rgPv gb) sz_ sb says turn fin wg k M) r limit where
 lo:=O.l1
 hi:=O.l2
 hdr:=fun s=>gg_ (rd_gK (r,0,.int .u64 (limit:Nat)) (by simp [gbK]))
 a:=fun w hw=>if_pos hw
theorem bfd {M:HProp} (O:GOk limit fails wait) (hne:r≠b):BreakerAt (ji_ (hv_ gD (dd_ r b) 3 (gbK r b limit fails wait) (pk_ hne limit fails wait) (all []) (rgPv gb) sz_ sb says turn fin wg k M) fun _=>2) b fails wait where
 lo:=O.f1
 hi:=O.f2
 whi:=O.w2
 hdr:=fun s=>gg_ (rd_gK (b,0,.int .u64 (fails:Nat)) (by simp [gbK]))
 hdw:=fun s=>gg_ (rd_gK (b,1,.int .u64 (wait:Nat)) (by simp [gbK]))
 a:=rfl
def thInv (limit fails wait r b gb k sb says turn fin wg p8 ib rb gt:Nat) (l:List (Int × Nat × Bool)) (Ro:HProp) (F:List HProp):PB.Inv (Nat × List (List Nat) × PlS) TX where
 e:=fun i=>[(0,gateV sb),(1,.pointer (some ⟨p8,0,none⟩)),(2,.pointer (some ⟨ib,0,none⟩)),(3,.pointer (some ⟨gt,0,none⟩)),(4,.pointer (some ⟨rb,0,none⟩)),(6,.int .i64 (i.1:Nat))]
 L:=fun i=>ccp limit fails wait r b sb says turn fin gb k i.2.1 i.2.2.f::Ro::F
 x:=fun i=>tx (vp_ limit fails wait r b gb) says turn fin wg (.busy i.2.2.g ((k,i.2.2.t):Nat × Mach.Th) i.2.2.n)
 ok:=fun i=>i.1≤l.length∧i.2.1.length=i.1∧Mach.onF (12) (Mach.Bt (ga_ limit fails wait l) i.1 (yesA i.2.1))=some i.2.2.t∧(∀ q,q<3→i.2.2.f q=i.2.2.g q)∧gD.ok i.2.2.f
set_option maxHeartbeats 2000000 in
theorem cmg {p8 ib rb gt qb qo nt qc gc c:Nat} {a:Option Addr} {l:List (Int × Nat × Bool)} {Ro:HProp} (B:GOk limit fails wait) (hne:r≠b) (O:ThRo Ro p8 ib rb gt qb qo nt qc gb gc k r b pp a c l) {t0:Mach.Th} (ht0:Mach.onF (12) (Mach.Bt (ga_ limit fails wait l) 0 [])=some t0) :
  ThrOk (vp_ limit fails wait r b gb) (fun s=>(s,((k,t0):Nat × Mach.Th))) (.func (.func 34) #[] #[.pointer (some ⟨p8,0,none⟩),.pointer (some ⟨ib,0,none⟩),.pointer (some ⟨gt,0,none⟩),.pointer (some ⟨rb,0,none⟩)]) (all [Ro,gotC gb k []]) where
 run:=by
  refine ⟨_,_,_,rfl,inferInstance,fun sb says turn fin wg (s:Nat→Nat) m F hok=>?_⟩
  show Tr Try.prog tH _ [gateV sb,.pointer (some ⟨p8,0,none⟩),.pointer (some ⟨ib,0,none⟩),.pointer (some ⟨gt,0,none⟩),.pointer (some ⟨rb,0,none⟩)] _ (tx (vp_ limit fails wait r b gb) says turn fin wg (.busy s ((k,t0):Nat × Mach.Th) m)) _
  refine dw_ (ccp limit fails wait r b sb says turn fin gb k [] s::Ro::F) (fun hp st=>?_) ?_
  ·have s1:Star (wds (dd_ r b) 3 (gbK r b limit fails wait) s::all []::seatR sb says turn fin::all [Ro,gotC gb k []]::F) hp:=ci_ (M:=[_,_]) st
   have s2:Star (Ro::gotC gb k []::wds (dd_ r b) 3 (gbK r b limit fails wait) s::all []::seatR sb says turn fin::F) hp:=ci_ (M:=[_,_]) (Ent.star (.take (.there (.there (.there .here))) .refl) s1)
   exact bv_ (M:=[_,_,_,_]) (Ent.star (.take (.there (.there .here)) (.take (.there (.there .here)) (.take (.there (.there .here)) (.take (.there .here) .refl)))) s2)
  refine bd_ Try.func34 rfl Try.ntmps34 (by simp) fun um Q _ hQ=>?_
  simp only [argE,Nat.zero_add,Nat.reduceAdd]
  repeat (first | refine bb_ ?_ | (refine wR ?_;try simp only [oS]) | refine ba_ ?_ | refine wA ?_ | refine bf_ ?_)
  refine de_ (thInv limit fails wait r b gb k sb says turn fin wg p8 ib rb gt l Ro F) (fun i=>l.length-i.1) (0,[],⟨s,s,t0,m⟩) ⟨Nat.zero_le _,rfl,ht0,fun _ _=>rfl,hok⟩ ⟨rfl,rfl,rfl,rfl,rfl,rfl,trivial⟩ .refl rfl ?_
  rintro ⟨i,pre,s⟩ ⟨hi,hpre,hon,hfg,hok⟩
  dsimp only at hi hpre hon hfg hok
  simp only [thInv]
  have q1:∀ {c:HProp},Rd (c::Ro::F) p8 0 (.slice (some ⟨qb,qo,none⟩) nt qc):=fun {c}=>.there (Rd.of .here O.h1)
  have q2:∀ {c':HProp},Rd (c'::Ro::F) qb (qo+k) (.slice a l.length c):=fun {c}=>.there (Rd.of .here O.h2)
  have q4:∀ {c:HProp},Rd (c::Ro::F) ib 0 (.int .i64 (k:Nat)):=fun {c}=>.there (Rd.of .here O.h4)
  have q5:∀ {c:HProp},Rd (c::Ro::F) rb 0 (.pointer (some ⟨pp,0,none⟩)):=fun {c}=>.there (Rd.of .here O.h5)
  have hkn:=O.hk
  have hl16:=O.hl
  by_cases hlt:i<l.length
  ·obtain ⟨y,hy⟩:∃ y,l[i]?=some y:=⟨l[i],List.getElem?_eq_getElem hlt⟩
   obtain ⟨b3,o3,rfl,r3⟩:=O.h3 i y hy
   have q3:∀ {c':HProp},Rds (c'::Ro::F) b3 (o3+3*i) [.int .i64 y.1,.int .u64 (y.2.1:Nat),.bool y.2.2]:=fun {c} q v hq=>.there (Rd.of .here (r3 q v hq))
   obtain ⟨hy1,hy2⟩:=O.ok y (List.mem_of_getElem? hy)
   obtain ⟨kind,now,v⟩:=y
   simp only at hy1 hy2 q3
   have hcl:(ga_ limit fails wait l)[i]?=some (fr_ limit fails wait kind (now%1099511627777) v):=by
    simp only [ga_,List.getElem?_map,hy,Option.map_some]
   -- got[k]'s cell,seen
   refine di_ (gotC gb k pre::wds (dd_ r b) 3 (gbK r b limit fails wait) s.f::all []::seatR sb says turn fin::Ro::F) (fun hp st=>by
    have s1:Star (wds (dd_ r b) 3 (gbK r b limit fails wait) s.f::all []::seatR sb says turn fin::gotC gb k pre::Ro::F) hp:=ci_ (M:=[_,_,_,_]) st
    exact Ent.star (.take (.there (.there (.there .here))) .refl) s1) ?_
   refine we_ex (d:=fun (y:Value × List (Value × List Nat)) h=>y.2.map (·.2)=pre∧gotY gb k y h) .here fun y=>jr_ .here fun hsn=>?_
   obtain ⟨gv,sl⟩:=y
   simp only at hsn
   refine dg_ (p:=∃ ga gn gcap,gv=.slice ga gn gcap∧gn=i) (fun hp st=>by
    have s1:Star (arr gb k [gv]::vec 1 gv (sl.map (·.1))::all (sl.map rowT)::_) hp:=ci_ (M:=[_,_,_]) st
    obtain ⟨ga,gn,gcap,e,hgn,_⟩:=bp_ (.there .here) (bg_ (by omega)) hp s1
    have hsl:sl.length=pre.length:=by rw [← hsn];simp
    exact ⟨ga,gn,gcap,e,by simp at hgn;omega⟩) ?_
   rintro ⟨ga,gn,gcap,rfl,rfl⟩
   have hsl:sl.length=pre.length:=by rw [← hsn];simp
   obtain ⟨M,hM⟩:∃ M,M=gotY gb k (.slice ga gn gcap,sl):=⟨_,rfl⟩
   rw [← hM]
   refine di_ (plC (dd_ r b) 3 (gbK r b limit fails wait) (all []) sb says turn fin M s.f::Ro::F) (fun hp st=>bv_ (M:=[_,_,_,_]) (Ent.star (.take (.there .here) (.take (.there .here) (.take (.there .here) (.take .here .refl)))) st)) ?_
   have hMg:∀ h,M h→gotC gb k pre h:=fun h z=>⟨(.slice ga gn gcap,sl),hsn,by rw [hM] at z;exact z⟩
   have hdone:=bpn (addr:=dd_ r b) (K:=gbK r b limit fails wait) (A:=pk_ hne limit fails wait) (Z:=all []) (Pv:=rgPv gb) (hPv:=sz_) (sb:=sb) (says:=says) (turn:=turn) (fin:=fin) (wg:=wg) (k:=k) (Pm:=M) B (by omega) kw_ hcl (by rw [bxd];exact hpre)
    (fun p r said hp hm=>pb_ (by rw [ccz];exact hMg _ hm)) hon hfg hok
   have w0:∀ {f:Nat→Nat},Rd (plC (dd_ r b) 3 (gbK r b limit fails wait) (all []) sb says turn fin M f::Ro::F) gb (0+k) (.slice ga gn gcap):=fun {f}=>by
    rw [hM]
    exact gg_ (.there (.there (.there (gg_ (Rd.row (k:=0) rfl (by omega))))))
   have w6:∀ {c:HProp},Rd (c::Ro::F) gt 0 (.slice (some ⟨gb,0,none⟩) nt gc):=fun {c}=>.there (Rd.of .here O.h6)
   repeat (first | (apply wo_po;apply cm_;exact rfl;exact rfl;omega;exact trivial) | (apply wo_po;apply bc_;exact rfl;(first | exact q1 | exact q2 | exact q4);exact trivial) | refine wlssT ?_ | refine bb_ ?_ | (refine wR ?_;try simp only [oS]) | refine ba_ ?_ | refine wM ?_ | refine wE ?_ | refine wT ?_ | refine bk_ ?_ | refine bf_ ?_)
   refine br_ (List.range' 0 20) (by kernel_rfl) ?_
   repeat (first | (apply be_;exact rfl;exact rfl;exact trivial;intro L;apply cm_;exact rfl;exact rfl;omega) | (apply be_;exact rfl;exact rfl;exact trivial;intro L;apply cb_ (r:=o3+3*gn);exact rfl;exact rfl;omega;omega;omega) | (apply bj_;exact rfl;exact rfl;exact trivial;apply bc_;exact rfl;(first | exact q1 | exact q2 | exact q4 | exact q5 | exact w0 | exact w6)) | (apply bj_;exact rfl;exact rfl;exact trivial;apply cc_ (vs:=[.int .i64 kind,.int .u64 (now:Nat),.bool v]);exact rfl;exact rfl;exact q3) | refine aM ?_)
   refine gc_ rfl rfl rfl trivial rfl rfl (.cons rfl (.cons rfl (.cons rfl .nil))) (bjr (n:=now) (A:=hv_ gD (dd_ r b) 3 (gbK r b limit fails wait) (pk_ hne limit fails wait) (all []) (rgPv gb) sz_ sb says turn fin wg k M) (φ:=fun _=>2) (bpf B hne) (bfd B hne) hdone .here (.there (Rd.of .here O.h7)) (.there (Rd.of .here O.h8))) ?_ ?_
   ·rintro v1 L' x' ⟨told,s',_,rfl,_⟩ p hp
    replace hp:=(List.mem_filter.1 hp).1
    simp only [List.mem_cons,List.not_mem_nil,or_false] at hp
    repeat (rcases hp with rfl | hp;· first | exact .inl rfl | exact .inr ⟨_,rfl,trivial,bc_ rfl (by first | exact .there w0 | exact Rd.of (.there (.there .here)) O.h1 | exact Rd.of (.there (.there .here)) O.h2 | exact Rd.of (.there (.there .here)) O.h4 | exact Rd.of (.there (.there .here)) O.h5 | exact Rd.of (.there (.there .here)) O.h6)⟩ | exact .inr ⟨_,rfl,trivial,cc_ (vs:=[.int .i64 kind,.int .u64 (now:Nat),.bool v]) rfl rfl (fun q w hq=>Rd.of (.there (.there .here)) (r3 q w hq))⟩)
   rintro bv L' x' ⟨told,s',⟨hon',hfg',hok'⟩,rfl,rfl⟩
   refine gv_ (bp_ .here (bg_ (by omega))) ?_
   rintro ⟨ba,bn,bcap,rfl,hbn,_⟩
   have v0:Rd (arr gb k [.slice ga gn gcap]::vec 1 (.slice ga gn gcap) (sl.map (·.1))::all (sl.map rowT)::wds (dd_ r b) 3 (gbK r b limit fails wait) s'.f::all []::seatR sb says turn fin::vec 1 (.slice ba bn bcap) (told.map Go.PB.num)::Ro::F) gb (0+k) (.slice ga gn gcap):=Rd.row (k:=0) rfl (by omega)
   refine bfj (L':=arr gb k [.slice ga gn gcap]::vec 1 (.slice ga gn gcap) (sl.map (·.1))::all (sl.map rowT)::wds (dd_ r b) 3 (gbK r b limit fails wait) s'.f::all []::seatR sb says turn fin::vec 1 (.slice ba bn bcap) (told.map Go.PB.num)::Ro::F) (fun hp st=>by
    have s1:Star (wds (dd_ r b) 3 (gbK r b limit fails wait) s'.f::all []::seatR sb says turn fin::M::vec 1 (.slice ba bn bcap) (told.map Go.PB.num)::Ro::F) hp:=ci_ (M:=[_,_,_,_]) (cx_ st)
    rw [hM] at s1
    exact ci_ (M:=[_,_,_]) (Ent.star (.take (.there (.there (.there .here))) .refl) s1)) (fun p hp=>?_) ?_
   ·replace hp:=(List.mem_filter.1 hp).1
    simp only [List.mem_cons,List.not_mem_nil,or_false] at hp
    repeat (rcases hp with rfl | hp;· first | exact .inl rfl | exact .inr ⟨_,rfl,trivial,bc_ rfl (by first | exact v0 | exact Rd.of (.there (.there (.there (.there (.there (.there (.there .here))))))) O.h1 | exact Rd.of (.there (.there (.there (.there (.there (.there (.there .here))))))) O.h2 | exact Rd.of (.there (.there (.there (.there (.there (.there (.there .here))))))) O.h4 | exact Rd.of (.there (.there (.there (.there (.there (.there (.there .here))))))) O.h5 | exact Rd.of (.there (.there (.there (.there (.there (.there (.there .here))))))) O.h6)⟩ | exact .inr ⟨_,rfl,trivial,cc_ (vs:=[.int .i64 kind,.int .u64 (now:Nat),.bool v]) rfl rfl (fun q w hq=>Rd.of (.there (.there (.there (.there (.there (.there (.there .here))))))) (r3 q w hq))⟩)
   refine fx_ rfl rfl rfl rfl trivial (bi_ (sz:=1) (vs:=[.slice ba bn bcap]) rfl (.cons rfl .nil) rfl (by intro v hv;cases (List.mem_singleton.1 hv);exact rfl) (by omega)) ?_ ?_
   ·rintro v' L' ⟨sb2,rfl,rfl⟩ p hp
    replace hp:=(List.mem_filter.1 (List.mem_filter.1 hp).1).1
    simp only [List.mem_cons,List.not_mem_nil,or_false] at hp
    repeat (rcases hp with rfl | hp;· first | exact .inl rfl | exact .inr ⟨_,rfl,trivial,bc_ rfl (by first | exact .there v0 | exact Rd.of (.there (.there (.there (.there (.there (.there (.there (.there .here)))))))) O.h1 | exact Rd.of (.there (.there (.there (.there (.there (.there (.there (.there .here)))))))) O.h2 | exact Rd.of (.there (.there (.there (.there (.there (.there (.there (.there .here)))))))) O.h4 | exact Rd.of (.there (.there (.there (.there (.there (.there (.there (.there .here)))))))) O.h5 | exact Rd.of (.there (.there (.there (.there (.there (.there (.there (.there .here)))))))) O.h6)⟩ | exact .inr ⟨_,rfl,trivial,cc_ (vs:=[.int .i64 kind,.int .u64 (now:Nat),.bool v]) rfl rfl (fun q w hq=>Rd.of (.there (.there (.there (.there (.there (.there (.there (.there .here)))))))) (r3 q w hq))⟩)
   rintro v' L' ⟨sb2,rfl,rfl⟩
   refine fx_ rfl rfl rfl rfl trivial (cf_ (sz:=1) (new:=[.slice ba bn bcap]) rfl rfl rfl rfl (.there (.there .here)) rfl (.inr ⟨_,_,rfl,Rds.all .here⟩) (by intro v hv;cases (List.mem_singleton.1 hv);exact rfl) (by simp only [cj_];omega)) ?_ ?_
   ·rintro vw L' rfl p hp
    replace hp:=(List.mem_filter.1 (List.mem_filter.1 (List.mem_filter.1 hp).1).1).1
    simp only [List.mem_cons,List.not_mem_nil,or_false] at hp
    have v0:Rd (vec 1 vw (sl.map (·.1)++[.slice ba bn bcap])::arr sb2 0 [.slice ba bn bcap]::arr gb k [.slice ga gn gcap]::all (sl.map rowT)::wds (dd_ r b) 3 (gbK r b limit fails wait) s'.f::all []::seatR sb says turn fin::vec 1 (.slice ba bn bcap) (told.map Go.PB.num)::Ro::F) gb (0+k) (.slice ga gn gcap):=.there (.there (Rd.row (k:=0) rfl (by omega)))
    repeat (rcases hp with rfl | hp;· first | exact .inl rfl | exact .inr ⟨_,rfl,trivial,bc_ rfl (by first | exact v0 | exact Rd.of (.there (.there (.there (.there (.there (.there (.there (.there .here)))))))) O.h1 | exact Rd.of (.there (.there (.there (.there (.there (.there (.there (.there .here)))))))) O.h2 | exact Rd.of (.there (.there (.there (.there (.there (.there (.there (.there .here)))))))) O.h4 | exact Rd.of (.there (.there (.there (.there (.there (.there (.there (.there .here)))))))) O.h5 | exact Rd.of (.there (.there (.there (.there (.there (.there (.there (.there .here)))))))) O.h6)⟩ | exact .inr ⟨_,rfl,trivial,cc_ (vs:=[.int .i64 kind,.int .u64 (now:Nat),.bool v]) rfl rfl (fun q w hq=>Rd.of (.there (.there (.there (.there (.there (.there (.there (.there .here)))))))) (r3 q w hq))⟩)
   rintro v' L' rfl
   refine gv_ (bp_ .here (bg_ (by omega))) ?_
   rintro ⟨va,vn,vc,rfl,_⟩
   repeat (first | (apply be_;exact rfl;exact rfl;exact trivial;intro L;apply cm_;exact rfl;exact rfl;omega))
   refine cg_ rfl rfl rfl rfl rfl trivial (cq_ rfl rfl rfl (Wt.row (k:=0) (vs:=[.slice ga gn gcap]) (Nat.lt_succ_self 0) (by omega) (.there (.there .here)))) ?_
   rintro v' L' ⟨rfl,rfl⟩
   refine bz_ ?_
   repeat (first | (refine wR ?_;try simp only [oS]) | refine ba_ ?_ | refine wM ?_ | refine wA ?_ | refine wadd ?_)
   refine dv_ (B:=tH) (I:=thInv limit fails wait r b gb k sb says turn fin wg p8 ib rb gt l Ro F) (R:=fun q=>l.length-q.1<l.length-gn) (gn+1,pre++[told],s') (by show l.length-(gn+1)<l.length-gn;omega) ⟨by show gn+1≤l.length;omega,by simp [hpre],by rw [← bsj];exact hon',hfg',hok'⟩ ?_ (fun hp st=>?_) rfl
   ·exact ⟨rfl,rfl,rfl,rfl,rfl,rfl,trivial⟩
   ·have s1:Star (all (sl.map rowT)::rowT (Value.slice ba bn bcap,told)::vec 1 (.slice va vn vc) (sl.map (·.1)++[.slice ba bn bcap])::arr gb k [.slice va vn vc]::wds (dd_ r b) 3 (gbK r b limit fails wait) s'.f::all []::seatR sb says turn fin::Ro::F) hp:=Ent.star (.take (.there (.there (.there .here))) (.take (.there (.there (.there (.there (.there (.there .here)))))) (.take .here (.drop (.take .here .refl))))) st
    have s2:=ci_ s1
    have s3:Star (all ((sl++[((Value.slice ba bn bcap,told):Value × List Nat)]).map rowT)::vec 1 (.slice va vn vc) ((sl++[((Value.slice ba bn bcap,told):Value × List Nat)]).map (·.1))::arr gb k [.slice va vn vc]::wds (dd_ r b) 3 (gbK r b limit fails wait) s'.f::all []::seatR sb says turn fin::Ro::F) hp:=bv_ (by
     rw [List.map_append,List.map_append,List.append_assoc]
     exact s2)
    have s4:=bv_ (M:=[_,_,_]) (Ent.star (.take (.there (.there .here)) (.take (.there .here) (.take .here .refl))) s3)
    have s5:Star (gotC gb k (pre++[told])::wds (dd_ r b) 3 (gbK r b limit fails wait) s'.f::all []::seatR sb says turn fin::Ro::F) hp:=bm_ s4 (fun h z=>⟨(Value.slice va vn vc,sl++[((Value.slice ba bn bcap,told):Value × List Nat)]),(show List.map (·.2) (sl++[((Value.slice ba bn bcap,told):Value × List Nat)])=pre++[told] from by rw [List.map_append];exact congrArg (·++[told]) hsn),z⟩) fun _ z=>z
    exact bv_ (M:=[_,_,_,_]) (Ent.star (.take (.there .here) (.take (.there .here) (.take (.there .here) (.take .here .refl)))) s5)
  ·obtain rfl:i=l.length:=by omega
   repeat (first | (apply wo_po;apply cm_;exact rfl;exact rfl;omega;exact trivial) | (apply wo_po;apply bc_;exact rfl;(first | exact q1 | exact q2 | exact q4);exact trivial) | refine wlssF ?_ | refine bb_ ?_ | (refine wR ?_;try simp only [oS]) | refine ba_ ?_ | refine wM ?_ | refine wE ?_ | refine wF ?_ | refine cu_ ?_)
   (first | refine or0 Try.func34 Try.results34 hQ ?_ | refine on0 Try.func34 Try.results34 hQ ?_)
   have hnone:(ga_ limit fails wait l)[l.length]?=none:=List.getElem?_eq_none_iff.2 (by simp [ga_])
   rw [Mach.on_over (f:=11) hnone] at hon
   have hst:=(Option.some.inj hon).symm
   refine ⟨s.g,((k,s.t):Nat × Mach.Th),s.n,rfl,?_,fun hp st=>?_⟩
   ·show mPlan _ (k,s.t)=none
    unfold mPlan
    rw [if_pos (by rw [hst])]
   ·have s1:Star (wds (dd_ r b) 3 (gbK r b limit fails wait) s.f::all []::seatR sb says turn fin::gotC gb k pre::Ro::F) hp:=ci_ (M:=[_,_,_,_]) st
    have s2:=bv_ (M:=[_,_]) (bm_ s1 (zo_ hfg) fun _ z=>z)
    have e:hy_ s.t=pre:=by rw [hst];exact sf_
    refine bm_ s2 (fun _ z=>z) fun hq z=>bm_ z (fun _ z=>z) fun hq z=>bm_ z (fun hq z=>?_) fun hq z=>bs_ z
    show Star [gotC gb k (hy_ s.t)] hq
    rw [e];exact pb_ z
end
end
end Go.Proofs.Ytnnpdmhmpgmpnaa
namespace Go.Proofs.Ytnnpdmhmpgmpnaa
open Go Go.PB
attribute [local irreducible] Mo Bin Eql Tr Wo Ap
section
theorem bnn {P:Program} {e:Env} {ty:TypeId} {L:List HProp} {t el sz n c u:Nat} {a:Option Addr} {k:IntKind} {j:Int} {o hi:Operand} [p:SlT P t el] [s:Siz P el sz] (hx:ev e o=some (.slice a n c)) (hh:ev e hi=some (.int k j)) (hj:j=(u:Nat)) (hu:u≤c) :
  Mo P e (.slice t o none (some hi) none) ty L fun v' L'=>v'=.slice a u c∧L'=L:=by
 have h:=ccc (P:=P) (e:=e) (ty:=ty) (L:=L) (t:=t) (l:=0) (u:=u) hx .no (.yes hh hj) (Nat.zero_le _) hu
 have e1:(if c=0 then a else a.map (·.add (0*sz)))=a:=by
  split
  ·rfl
  ·cases a with
   | none=>rfl
   | some y=>simp [Addr.add]
 rw [e1] at h
 exact h
abbrev RW:=Option Addr × Nat × List (Int × Nat × Bool)
def rv (y:RW):Value:=.slice y.1 y.2.2.length y.2.1
def ThsAt (L:List HProp) (a:Option Addr) (rs:List RW):Prop:=∀ (i:Nat) y,rs[i]?=some y→∃ b o,a=some ⟨b,o,none⟩∧Rd L b (o+i) (rv y)∧DoAt L y.1 y.2.2∧y.2.2.length≤y.2.1
def cutR (y:RW):RW:=(y.1,y.2.1,y.2.2.take 8)
def fewR (rs:List RW):List RW:=if rs=[] then [(none,0,[])] else (rs.take 4).map cutR
section
variable {B:Hand} [Lets B] {L F:List HProp} {x:B.X}
def bds (x:B.X) (a:Option Addr) (c:Nat) (rs:List RW) (L:List HProp):Inv (Nat × Value) B.X where
 e:=fun i=>[(0,.slice a rs.length c),(3,i.2),(4,.int .i64 (i.1:Nat))]
 L:=fun i=>vec 1 i.2 (((rs.take i.1).map cutR).map rv)::L
 x:=fun _=>x
 ok:=fun i=>i.1≤rs.length∧i.1≤4
theorem cnf {a:Option Addr} {c:Nat} {rs:List RW} (hr:ThsAt L a rs) :
  Tr Try.prog B 32 [.slice a rs.length c] L x fun v L' x'=>L'=vec 1 v ((fewR rs).map rv)::L∧x'=x:=by
 refine Tr.post (R:=fun v L' x'=>x'=x∧∀ h,Star L' h→Star (vec 1 v ((fewR rs).map rv)::L) h) ?_
  (by rintro v L' x' ⟨rfl,h2⟩;exact ⟨_,⟨rfl,rfl⟩,h2⟩)
 refine bd_ Try.func32 rfl Try.ntmps32 (by simp) fun um Q _ hQ=>?_
 simp only [argE,Nat.zero_add,Nat.reduceAdd]
 repeat (first | refine bb_ ?_ | (refine wR ?_;try simp only [oS]) | refine ba_ ?_ | refine wA ?_ | refine bf_ ?_)
 refine di_ (vec 1 (.slice none 0 0) (((rs.take 0).map cutR).map rv)::L) (fun h st=>dp_ st) ?_
 refine de_ (bds x a c rs L) (fun i=>rs.length-i.1) (0,.slice none 0 0) ⟨Nat.zero_le _,Nat.zero_le _⟩ ⟨rfl,rfl,rfl,trivial⟩ .refl rfl ?_
 rintro ⟨i,v⟩ ⟨hil,hi4⟩
 simp only at hil hi4
 simp only [bds]
 refine dg_ (bp_ .here (bg_ (by omega))) ?_
 rintro ⟨va,vn,vc,rfl,hvn,_⟩
 have hvn:vn=i:=by simp at hvn;omega
 subst hvn
 by_cases hgo:vn<rs.length∧vn<4
 ·obtain ⟨hlt,h4⟩:=hgo
  obtain ⟨y,hy⟩:∃ k,rs[vn]?=some k:=⟨rs[vn],List.getElem?_eq_getElem hlt⟩
  obtain ⟨b,o,rfl,hrd,hdo,hcap⟩:=hr vn y hy
  obtain ⟨ya,yc,yl⟩:=y
  simp only [rv] at hrd hdo hcap
  have hrk:∀ {d:HProp},Rd (d::L) b (o+vn) (.slice ya yl.length yc):=fun {d}=>.there hrd
  have hcr:cutR (ya,yc,yl)=(ya,yc,yl.take 8):=rfl
  obtain ⟨m,hm⟩:∃ m,(yl.take 8).length=m:=⟨_,rfl⟩
  have hm':=hm
  rw [List.length_take] at hm'
  have hgoal:rv (cutR (ya,yc,yl))=.slice ya m yc:=by rw [hcr];show Value.slice ya (yl.take 8).length yc=_;rw [hm]
  by_cases h8:8<yl.length
  ·have e8:m=8:=by omega
   subst e8
   repeat (first | (apply wo_po;apply cm_;exact rfl;exact rfl;omega;exact trivial) | (apply wo_po;apply bc_;exact rfl;exact hrk;exact trivial) | (apply wo_po;apply bnn (u:=8);exact rfl;exact rfl;exact rfl;omega;exact trivial) | refine wlssT ?_ | refine wgtrT ?_ | refine bb_ ?_ | (refine wR ?_;try simp only [oS]) | refine ba_ ?_ | refine wM ?_ | refine wA ?_ | refine wK ?_ | refine wE ?_ | refine wT ?_ | refine bk_ ?_ | refine bf_ ?_)
   repeat (first | (apply wo_mo;apply bi_ (sz:=1) (vs:=[.slice ya 8 yc]);exact rfl;exact .cons rfl .nil;exact rfl;(intro v hv;cases (List.mem_singleton.1 hv);exact rfl);omega;exact trivial))
   rintro v' L' ⟨sb2,rfl,rfl⟩
   repeat (first | (apply wo_mo;apply cf_ (sz:=1) (new:=[.slice ya 8 yc]);exact rfl;exact rfl;exact rfl;exact rfl;exact (.there .here);exact rfl;exact .inr ⟨_,_,rfl,Rds.all .here⟩;(intro v hv;cases (List.mem_singleton.1 hv);exact rfl);(simp only [cj_];omega);exact trivial))
   rintro v' L' rfl
   repeat (first | (refine wR ?_;try simp only [oS]) | refine ba_ ?_ | refine wM ?_ | refine wA ?_ | refine wadd ?_)
   refine dr_ (I:=bds x (some ⟨b,o,none⟩) c rs L) (R:=fun j=>rs.length-j.1<rs.length-vn) (vn+1,v') (by show rs.length-(vn+1)<rs.length-vn;omega) ⟨by show vn+1≤rs.length;omega,by show vn+1≤4;omega⟩ ?_ ?_ rfl
   exact ⟨rfl,rfl,rfl,trivial⟩
   show Ent _ (vec 1 v' (((rs.take (vn+1)).map cutR).map rv)::_)
   rw [show ((rs.take (vn+1)).map cutR).map rv=((rs.take vn).map cutR).map rv++[.slice ya 8 yc] by rw [List.take_add_one,hy];simp only [Option.toList_some,List.map_append,List.map_cons,List.map_nil,hgoal]]
   exact (.take .here (.drop .refl))
  ·have e8:m=yl.length:=by omega
   subst e8
   repeat (first | (apply wo_po;apply cm_;exact rfl;exact rfl;omega;exact trivial) | (apply wo_po;apply bc_;exact rfl;exact hrk;exact trivial) | refine wlssT ?_ | refine wgtrF ?_ | refine bb_ ?_ | (refine wR ?_;try simp only [oS]) | refine ba_ ?_ | refine wM ?_ | refine wA ?_ | refine wK ?_ | refine wE ?_ | refine wT ?_ | refine wF ?_ | refine bk_ ?_ | refine bf_ ?_)
   repeat (first | (apply wo_mo;apply bi_ (sz:=1) (vs:=[.slice ya yl.length yc]);exact rfl;exact .cons rfl .nil;exact rfl;(intro v hv;cases (List.mem_singleton.1 hv);exact rfl);omega;exact trivial))
   rintro v' L' ⟨sb2,rfl,rfl⟩
   repeat (first | (apply wo_mo;apply cf_ (sz:=1) (new:=[.slice ya yl.length yc]);exact rfl;exact rfl;exact rfl;exact rfl;exact (.there .here);exact rfl;exact .inr ⟨_,_,rfl,Rds.all .here⟩;(intro v hv;cases (List.mem_singleton.1 hv);exact rfl);(simp only [cj_];omega);exact trivial))
   rintro v' L' rfl
   repeat (first | (refine wR ?_;try simp only [oS]) | refine ba_ ?_ | refine wM ?_ | refine wA ?_ | refine wadd ?_)
   refine dr_ (I:=bds x (some ⟨b,o,none⟩) c rs L) (R:=fun j=>rs.length-j.1<rs.length-vn) (vn+1,v') (by show rs.length-(vn+1)<rs.length-vn;omega) ⟨by show vn+1≤rs.length;omega,by show vn+1≤4;omega⟩ ?_ ?_ rfl
   exact ⟨rfl,rfl,rfl,trivial⟩
   show Ent _ (vec 1 v' (((rs.take (vn+1)).map cutR).map rv)::_)
   rw [show ((rs.take (vn+1)).map cutR).map rv=((rs.take vn).map cutR).map rv++[.slice ya yl.length yc] by rw [List.take_add_one,hy];simp only [Option.toList_some,List.map_append,List.map_cons,List.map_nil,hgoal]]
   exact (.take .here (.drop .refl))
 ·have hend:rs.take vn=rs.take 4:=by
   by_cases h4:vn=4
   ·rw [h4]
   ·have:vn=rs.length:=by omega
    rw [this,List.take_length,List.take_of_length_le (by omega)]
  rw [hend]
  by_cases h0:rs=[]
  ·subst h0
   obtain rfl:vn=0:=by simp at hil;omega
   repeat (first | (apply wo_mo;apply bi_ (sz:=1) (vs:=[.slice none 0 0]);exact rfl;exact .cons rfl .nil;exact rfl;(intro v hv;cases (List.mem_singleton.1 hv);exact rfl);omega;exact trivial) | refine wlssF ?_ | refine weqlT ?_ | refine bb_ ?_ | (refine wR ?_;try simp only [oS]) | refine ba_ ?_ | refine wM ?_ | (apply wo_no;exact rfl) | refine wJ ?_ | refine wE ?_ | refine wT ?_ | refine wF ?_ | refine cu_ ?_)
   rintro v' L' ⟨nb,rfl,rfl⟩
   repeat (first | (apply wo_mo;apply cf_ (sz:=1) (new:=[.slice none 0 0]);exact rfl;exact rfl;exact rfl;exact rfl;exact (.there .here);exact rfl;exact .inr ⟨_,_,rfl,Rds.all .here⟩;(intro v hv;cases (List.mem_singleton.1 hv);exact rfl);(simp only [cj_];omega);exact trivial))
   rintro v' L' rfl
   repeat (first | refine bb_ ?_ | (refine wR ?_;try simp only [oS]) | refine ba_ ?_ | refine wM ?_ | refine wA ?_ | refine bn_ ?_)
   (first | refine or1 Try.func32 Try.results32 hQ rfl ?_ | refine on1 Try.func32 Try.results32 hQ rfl ?_)
   exact ⟨rfl,fun h st=>Ent.star (.take .here (.drop .refl)) st⟩
  ·have he:fewR rs=(rs.take 4).map cutR:=if_neg h0
   have hpos:0<rs.length:=List.length_pos_iff.2 h0
   have hvp:0<vn:=by omega
   by_cases hv:vn<rs.length
   ·obtain rfl:vn=4:=by omega
    repeat (first | refine wlssT ?_ | refine wlssF ?_ | refine weqlF ?_ | refine bb_ ?_ | (refine wR ?_;try simp only [oS]) | refine ba_ ?_ | refine wM ?_ | refine wA ?_ | refine wK ?_ | refine wE ?_ | refine wF ?_ | refine bn_ ?_ | refine bk_ ?_ | refine cu_ ?_)
    (first | refine or1 Try.func32 Try.results32 hQ rfl ?_ | refine on1 Try.func32 Try.results32 hQ rfl ?_)
    exact ⟨rfl,fun h st=>by rw [he];exact st⟩
   ·obtain rfl:vn=rs.length:=by omega
    repeat (first | refine wlssF ?_ | refine weqlF ?_ | refine bb_ ?_ | (refine wR ?_;try simp only [oS]) | refine ba_ ?_ | refine wM ?_ | refine wA ?_ | (apply wo_no;exact rfl) | refine wJ ?_ | refine wE ?_ | refine wF ?_ | refine bn_ ?_ | refine bk_ ?_ | refine cu_ ?_)
    (first | refine or1 Try.func32 Try.results32 hQ rfl ?_ | refine on1 Try.func32 Try.results32 hQ rfl ?_)
    exact ⟨rfl,fun h st=>by rw [he];exact st⟩
end
end
section
def intC (l:List Int):List Value:=l.map fun k=>.int .i64 k
def fv_ (m:Nat) (l:List Int):List Int:=(l.take 2000).map fun k=>k%((m:Int)+1)
section
variable {B:Hand} [Lets B] {L F:List HProp} {x:B.X}
def ya_ (x:B.X) (u:Value) (m:Nat) (l:List Int) (L:List HProp):Inv (Nat × Value) B.X where
 e:=fun i=>[(0,u),(1,.int .i64 (m:Nat)),(5,i.2),(6,.int .i64 (i.1:Nat))]
 L:=fun i=>vec 1 i.2 (intC ((l.take i.1).map fun k=>k%((m:Int)+1)))::L
 x:=fun _=>x
 ok:=fun i=>i.1≤l.length∧i.1≤2000
theorem cbr {a:Option Addr} {c m:Nat} {l:List Int} (hr:RdsO L a l.length (intC l)) (hm:m<1000000) (hi:∀ k∈l,-9223372036854775808≤k∧k≤9223372036854775807) :
  Tr Try.prog B 31 [.slice a l.length c,.int .i64 (m:Nat)] L x fun v L' x'=>L'=vec 1 v (intC (fv_ m l))::L∧x'=x:=by
 refine bd_ Try.func31 rfl Try.ntmps31 (by simp) fun um Q _ hQ=>?_
 simp only [argE,Nat.zero_add,Nat.reduceAdd]
 repeat (first | refine bb_ ?_ | (refine wR ?_;try simp only [oS]) | refine ba_ ?_ | refine wA ?_ | refine bf_ ?_)
 refine di_ (vec 1 (.slice none 0 0) (intC ((l.take 0).map fun k=>k%((m:Int)+1)))::L) (fun h st=>dp_ st) ?_
 refine de_ (ya_ x (.slice a l.length c) m l L) (fun i=>l.length-i.1) (0,.slice none 0 0) ⟨Nat.zero_le _,Nat.zero_le _⟩ ⟨rfl,rfl,rfl,rfl,trivial⟩ .refl rfl ?_
 rintro ⟨i,v⟩ ⟨hil,hi2⟩
 simp only at hil hi2
 simp only [ya_]
 refine dg_ (bp_ .here (bg_ (by omega))) ?_
 rintro ⟨va,vn,vc,rfl,hvn,_⟩
 have hvn:vn=i:=by simp [intC] at hvn;omega
 subst hvn
 by_cases hlt:vn<l.length
 ·by_cases h2:vn<2000
  ·obtain ⟨b,o,rfl,hrd⟩:=hr.rds (by omega)
   obtain ⟨k,hk⟩:∃ k,l[vn]?=some k:=⟨l[vn],List.getElem?_eq_getElem hlt⟩
   have hrk:∀ {d:HProp},Rd (d::L) b (o+vn) (.int .i64 k):=fun {d}=>.there (hrd vn _ (by simp [intC,hk]))
   repeat (first | (apply wo_po;apply cm_;exact rfl;exact rfl;omega;exact trivial) | (apply wo_po;apply bc_;exact rfl;exact hrk;exact trivial) | refine wlssT ?_ | refine bb_ ?_ | (refine wR ?_;try simp only [oS]) | refine ba_ ?_ | refine wM ?_ | refine wK ?_ | refine wadd ?_ | refine wE ?_ | refine wT ?_ | refine bk_ ?_ | refine bf_ ?_)
   refine bo_ (.cons rfl (.cons rfl .nil)) trivial (bsn (hi k (List.mem_of_getElem? hk)) (by omega)) ?_
   rintro v1 L1 x1 ⟨rfl,rfl,rfl⟩
   repeat (first | (apply wo_mo;apply bi_ (sz:=1) (vs:=[.int .i64 (k%((m:Int)+1))]);exact rfl;exact .cons rfl .nil;exact rfl;(intro v hv;cases (List.mem_singleton.1 hv);exact rfl);omega;exact trivial))
   rintro v' L' ⟨nb,rfl,rfl⟩
   repeat (first | (apply wo_mo;apply cf_ (sz:=1) (new:=[.int .i64 (k%((m:Int)+1))]);exact rfl;exact rfl;exact rfl;exact rfl;exact (.there .here);exact rfl;exact .inr ⟨_,_,rfl,Rds.all .here⟩;(intro v hv;cases (List.mem_singleton.1 hv);exact rfl);(simp only [cj_];omega);exact trivial))
   rintro v' L' rfl
   repeat (first | (refine wR ?_;try simp only [oS]) | refine ba_ ?_ | refine wM ?_ | refine wA ?_ | refine wadd ?_)
   refine dr_ (I:=ya_ x1 (.slice (some ⟨b,o,none⟩) l.length c) m l L) (R:=fun j=>l.length-j.1<l.length-vn) (vn+1,v') (by show l.length-(vn+1)<l.length-vn;omega) ⟨by omega,by omega⟩ ?_ ?_ rfl
   exact ⟨rfl,rfl,rfl,rfl,trivial⟩
   show Ent _ (vec 1 v' (intC ((l.take (vn+1)).map fun k=>k%((m:Int)+1)))::_)
   rw [show intC ((l.take (vn+1)).map fun k=>k%((m:Int)+1))=intC ((l.take vn).map fun k=>k%((m:Int)+1))++[.int .i64 (k%((m:Int)+1))] by rw [List.take_add_one,hk];simp [intC]]
   exact (.take .here (.drop .refl))
  ·obtain rfl:vn=2000:=by omega
   repeat (first | refine wlssT ?_ | refine wlssF ?_ | refine bb_ ?_ | (refine wR ?_;try simp only [oS]) | refine ba_ ?_ | refine wM ?_ | refine wA ?_ | refine wK ?_ | refine wE ?_ | refine wF ?_ | refine bn_ ?_ | refine cu_ ?_)
   (first | refine or1 Try.func31 Try.results31 hQ rfl ?_ | refine on1 Try.func31 Try.results31 hQ rfl ?_)
   exact ⟨rfl,rfl⟩
 ·obtain rfl:vn=l.length:=by omega
  repeat (first | refine wlssF ?_ | refine bb_ ?_ | (refine wR ?_;try simp only [oS]) | refine ba_ ?_ | refine wM ?_ | refine wA ?_ | (apply wo_no;exact rfl) | refine wJ ?_ | refine wE ?_ | refine wF ?_ | refine bn_ ?_ | refine cu_ ?_)
  (first | refine or1 Try.func31 Try.results31 hQ rfl ?_ | refine on1 Try.func31 Try.results31 hQ rfl ?_)
  refine ⟨?_,rfl⟩
  unfold fv_
  rw [List.take_of_length_le (by omega),List.take_of_length_le (by omega)]
end
end
end Go.Proofs.Ytnnpdmhmpgmpnaa
namespace Go.Proofs.Ytnnpdmhmpgmpnaa
open Go Go.PB
attribute [local irreducible] Mo Bin Eql Tr Wo Ap Wle
section
theorem vw_ {g:Game}:∀ {ts:List (Thr g)} {s:g.σ},(∀ t∈ts,∀ s,(t.ini s).1=s)→(dz_ ts s).1=s
 | [],s,_=>rfl
 | t::ts,s,h=>by
  show (dz_ ts (t.ini s).1).1=s
  rw [h t (by simp) s]
  exact vw_ fun u hu=>h u (by simp [hu])
section
variable {D:Wds} {U:(Nat→Nat)→HProp} {Pv:Nat × Mach.Th→HProp} {F:List HProp}
theorem cbd {p:PS (mG D U Pv)} {k:Int} (h:∃ st,Rel p st):∃ st,Rel (takeF p k).1 st:=by
 obtain ⟨st,h⟩:=h
 by_cases h0:k<0
 ·have ht:takeF p k=(p,false):=by unfold takeF;rw [if_pos h0]
  rw [ht];exact ⟨st,h⟩
 ·obtain ⟨n,rfl⟩:∃ n:Nat,k=n:=⟨k.toNat,by omega⟩
  obtain ⟨st',_,h2,_⟩:=xi_ h n
  exact ⟨st',h2⟩
theorem btf {ts:List (Thr (mG D U Pv))} {cc:List (List Mach.Cl)} {s0:(mG D U Pv).σ} (hb:Begins D U Pv 0 ts cc) (h0:D.ok s0):∃ st,Rel (D:=D) (U:=U) (Pv:=Pv) ⟨(dz_ ts s0).1,(dz_ ts s0).2,[]⟩ st:=by
 obtain ⟨l,h1,h2,h3,h4,h5⟩:=vr_ ts cc 0 s0 hb
 exact ⟨⟨D.W s0,l,[]⟩,⟨congrArg D.W h4.symm,(mi_ ts (show (mG D U Pv).σ from s0)).trans h2.symm,fun k=>(h5 k).trans (by rw [Nat.zero_add]),rfl,Nat.zero_le _,h3,(show D.ok (dz_ ts (show (mG D U Pv).σ from s0)).1 from h4.symm▸h0)⟩⟩
theorem chd {p:PS (mG D U Pv)} {st:Mach.St} (h:Rel p st) {n:Nat} (hn:n=st.l.length):cutN (mG D U Pv) p.qs n=Mach.St.cut st:=by
 subst hn
 unfold cutN Mach.St.cut
 apply List.filter_congr
 intro k _
 have hq:=h.qs k
 cases hl:st.l[k]? with
 | none=>rw [hl] at hq;rw [hq];rfl
 | some t =>
  rw [hl] at hq
  rw [hq]
  show ((mPlan D (k,t)).isSome)=!t.over
  unfold mPlan
  cases ho:t.over <;> simp [ho]
theorem chh {qs:List (Nat × Mach.Th)} {l:List Mach.Th} (hq:∀ k:Nat,qs[k]?=(l[k]?).map fun t=>(k,t)):qs.map Pv=l.mapIdx fun k t=>Pv (k,t):=by
 apply List.ext_getElem?
 intro k
 rw [List.getElem?_map,List.getElem?_mapIdx,hq k]
 cases l[k]? <;> rfl
theorem bvd {oa ta:Option Addr} {on oc tn tc:Nat} {order:List Int} {ts:List (Thr (mG D U Pv))} {cc:List (List Mach.Cl)} {s0:(mG D U Pv).σ} (hb:Begins D U Pv 0 ts cc) (h0:D.ok s0) (hini:∀ t∈ts,∀ s,(t.ini s).1=s) (hts:∀ t∈ts,ThrOk (mG D U Pv) t.ini t.fv t.M) (h1:0<ts.length) (h16:ts.length≤16) (hor:order.length≤16384)
  (hrt:RdsO F ta tn (ts.map Thr.fv)) (hro:RdsO F oa on (order.map fun k=>.int .i64 k)) :
  Tr Try.prog mT 30 [.slice oa on oc,.slice ta tn tc] (U s0::all (ts.map Thr.M)::F) .idle fun v L' x' =>
   ∃ tv cv st f',v=.tuple #[.agg #[tv,cv],.int .i64 0]∧x'=.idle∧Mach.play D.fu 16385 (D.W s0) (order.map fun k=>if k<0 then none else some k.toNat) cc=some st∧st.w=D.W f'∧st.tr.length≤16384∧st.l.length=cc.length ∧
    L'=vec 3 tv (trCP (st.tr.map fun e=>(e.1,mkII e.2)))::vec 1 cv (cutC (Mach.St.cut st))::U f'::all (st.l.mapIdx fun k t=>Pv (k,t))::F:=by
 obtain ⟨st,hp,hr,hl⟩:=bhq (o:=order) hb h0
 refine Tr.mono (cbh (g:=mG D U Pv) (order:=order) (ts:=ts) (s0:=s0) (fun p=>∃ st,Rel p st) (fun j hj=>?_) (btf hb h0) (fun p k h=>cbd h) (fun p ⟨st,h⟩ _=>h.ok) (fun _ _ z=>z) hts h1 h16 hor hrt hro) ?_
 ·have e:(dz_ (ts.take j) s0).1=s0:=vw_ fun t ht=>hini t (List.mem_of_mem_take ht)
  rw [e];exact h0
 ·rintro v L' x' ⟨tv,cv,rfl,rfl,rfl⟩
  refine ⟨tv,cv,st,(playF ts s0 order).s,rfl,rfl,hp,hr.w,hr.le,hl,?_⟩
  rw [hr.tr,chd hr (by rw [hl,hb.len])]
  exact congrArg (fun z=>vec 3 tv (trCP (st.tr.map fun e=>(e.1,mkII e.2)))::vec 1 cv (cutC (Mach.St.cut st))::U (playF ts s0 order).s::all z::F) (chh (Pv:=Pv) hr.qs)
end
end
section
theorem zz_ {b:Nat} {v:Value} {L:List HProp}:∀ (n o:Nat) {h:Hp},Star (arr b o (List.replicate n v)::L) h→Star (all ((List.range' o n).map fun i=>arr b i [v])::L) h
 | 0,o,h,s=>bv_ (M:=[]) (bs_ s)
 | n+1,o,h,s=>by
  rw [List.replicate_succ] at s
  have s1:Star (arr b o [v]::arr b (o+1) (List.replicate n v)::L) h:=bgt (us:=[v]) s
  rw [List.range'_succ,List.map_cons]
  exact ki_ (bm_ s1 (fun _ z=>z) fun _ z=>zz_ n (o+1) z)
theorem cjd {gb i:Nat}:∀ h,arr gb i [.slice none 0 0] h→gotC gb i [] h:=fun h z=>by
 refine ⟨(.slice none 0 0,[]),rfl,?_⟩
 have s:Star (arr gb i [.slice none 0 0]::[]) h:=pb_ z
 have s1:Star (vec 1 (.slice none 0 0) []::all []::arr gb i [.slice none 0 0]::[]) h:=dp_ (bv_ (M:=[]) s)
 exact Ent.star (.take (.there (.there .here)) (.take .here (.take .here .refl))) s1
theorem cgh {b o n c:Nat} {cs:List Value}:∀ h,vec 1 (.slice (some ⟨b,o,none⟩) n c) cs h→∃ sp,arr b o (cs++sp) h:=fun h z=>by
 rcases z with ⟨e,_⟩ | ⟨b',o',n',c',sp,e,h1,h2,h3,h4⟩
 ·cases e
 ·cases e;exact ⟨sp,h4⟩
abbrev TH:=Nat × (Option Addr × Nat × List CD)
def boxes (ts:List TH):List HProp:=ts.mapIdx fun i y=>arr y.1 0 [.int .i64 (i:Nat)]
def thM (RoS:HProp) (gb i:Nat) (t:TH):HProp:=all [all [RoS,arr t.1 0 [.int .i64 (i:Nat)]],gotC gb i []]
theorem deal {RoS:HProp} (hd:Dup RoS) {gb:Nat} {ts:List TH} {L:List HProp} {h:Hp} (s:Star (RoS::all (boxes ts)::arr gb 0 (List.replicate ts.length (.slice none 0 0))::L) h):Star (all (ts.mapIdx (thM RoS gb))::RoS::L) h:=by
 have s1:=bjz hd s ts.length
 have s2:Star (all (List.replicate ts.length RoS)::all (boxes ts)::arr gb 0 (List.replicate ts.length (.slice none 0 0))::RoS::L) h:=Ent.star (.take .here (.take (.there .here) (.take (.there .here) (.take .here .refl)))) s1
 have s3:=xk_ (by simp [boxes]) s2
 have s4:=zz_ ts.length 0 (cx_ s3)
 have s5:Star (all ((List.range' 0 ts.length).map fun i=>gotC gb i [])::_) h:=bkr (by simp) (fun i a b ha hb=>by
  rw [List.getElem?_map,Option.map_eq_some_iff] at ha hb
  obtain ⟨k,hk,rfl⟩:=ha
  obtain ⟨k',hk',rfl⟩:=hb
  rw [hk] at hk'
  cases hk'
  exact cjd) s4
 have s6:=xk_ (by simp [boxes]) (cx_ s5)
 have e:List.zipWith (fun a b=>all [a,b]) (List.zipWith (fun a b=>all [a,b]) (List.replicate ts.length RoS) (boxes ts)) ((List.range' 0 ts.length).map fun i=>gotC gb i [])=ts.mapIdx (thM RoS gb):=by
  apply List.ext_getElem?
  intro i
  by_cases hi:i<ts.length
  ·simp [boxes,thM,hi,List.getElem?_zipWith,List.getElem?_range']
  ·have h1:(ts.mapIdx (thM RoS gb))[i]?=none:=List.getElem?_eq_none_iff.2 (by simp;omega)
   rw [h1]
   apply List.getElem?_eq_none_iff.2
   simp [boxes];omega
 rw [e] at s6
 exact s6
def t0Of (t:TH):Mach.Th:=(Mach.onF (12) (Mach.Bt (t.2.2.2.map (·.2.2.2)) 0 [])).getD (Mach.Bt [] 0 [])
abbrev rpF (p8 rb gt:Nat) (y:TH):Value:=.func (.func 34) #[] #[.pointer (some ⟨p8,0,none⟩),.pointer (some ⟨y.1,0,none⟩),.pointer (some ⟨gt,0,none⟩),.pointer (some ⟨rb,0,none⟩)]
def gw_ (limit fails wait r b p8 rb gt gb:Nat) (RoS:HProp) (ts:List TH):List (Thr (vp_ limit fails wait r b gb)):=ts.mapIdx fun i t=>⟨rpF p8 rb gt t,fun s=>(s,((i,t0Of t):Nat × Mach.Th)),thM RoS gb i t⟩
def ccOf (ts:List TH):List (List Mach.Cl):=ts.map fun t=>t.2.2.2.map (·.2.2.2)
theorem bmh {limit fails wait r b p8 rb gt gb:Nat} {RoS:HProp} {ts:List TH} (B:GOk limit fails wait) (hc:∀ t∈ts,t.2.2.2.length≤8∧gz_ limit fails wait (t.2.2.2.map (·.2.2.2))):Begins gD (fun f=>all [wds (dd_ r b) 3 (gbK r b limit fails wait) f,all []]) (rgPv gb) 0 (gw_ limit fails wait r b p8 rb gt gb RoS ts) (ccOf ts) where
 len:=by simp [gw_,ccOf]
 ini:=fun k t c ht hcc=>by
  simp only [ccOf,List.getElem?_map,Option.map_eq_some_iff] at hcc
  obtain ⟨y,hy,rfl⟩:=hcc
  simp only [gw_,List.getElem?_mapIdx,hy,Option.map_some,Option.some.injEq] at ht
  subst ht
  obtain ⟨t',h1,h2,h3⟩:=we_ B (hc y (List.mem_of_getElem? hy)).2
  refine ⟨t',h2,h3,fun s=>?_⟩
  show (s,((k,t0Of y):Nat × Mach.Th))=_
  unfold t0Of
  rw [h1,Nat.zero_add];rfl
abbrev roS (qb qo qc p8 rb gt gb r b pp limit fails wait:Nat) (rs:List RW) (sp:List Value) (L:List HProp):HProp:=all [fro qb qo (rs.map rv++sp),fro p8 0 [.slice (some ⟨qb,qo,none⟩) rs.length qc],fro rb 0 [.pointer (some ⟨pp,0,none⟩)],fro pp 0 [.pointer (some ⟨r,0,none⟩),.pointer (some ⟨b,0,none⟩),.int .u64 (limit:Nat),.int .u64 (fails:Nat),.int .u64 (wait:Nat)],fro gt 0 [.slice (some ⟨gb,0,none⟩) rs.length rs.length],all L]
theorem cgr {limit fails wait r b pp p8 rb gt gb qb qo qc:Nat} {rs:List RW} {sp:List Value} {L:List HProp} {ts:List TH} (B:GOk limit fails wait) (hne:r≠b) (hrow:∀ (i:Nat) y,rs[i]?=some y→DoAt L y.1 y.2.2∧y.2.2.length≤8) (hts:ts.length=rs.length)
  (hg:∀ (i:Nat) t y,ts[i]?=some t→rs[i]?=some y→t.2.2.2.map (·.2.2.2)=ga_ limit fails wait y.2.2):∀ t∈gw_ limit fails wait r b p8 rb gt gb (roS qb qo qc p8 rb gt gb r b pp limit fails wait rs sp L) ts,ThrOk (vp_ limit fails wait r b gb) t.ini t.fv t.M:=by
 intro t ht
 obtain ⟨i,hi⟩:=List.mem_iff_getElem?.1 ht
 simp only [gw_,List.getElem?_mapIdx,Option.map_eq_some_iff] at hi
 obtain ⟨y,hy,rfl⟩:=hi
 have hil:=(List.getElem?_eq_some_iff.1 hy).1
 obtain ⟨z,hz⟩:∃ z,rs[i]?=some z:=⟨rs[i]'(by omega),List.getElem?_eq_getElem (by omega)⟩
 obtain ⟨hdo,h16⟩:=hrow i z hz
 have hcl:=hg i y z hy hz
 obtain ⟨t',h1,_,_⟩:=we_ B (kw_ (l:=z.2.2))
 have ht0:t0Of y=t':=by unfold t0Of;rw [hcl,h1];rfl
 have lift:∀ {b1 o v},Rd [fro qb qo (rs.map rv++sp),fro p8 0 [.slice (some ⟨qb,qo,none⟩) rs.length qc],fro rb 0 [.pointer (some ⟨pp,0,none⟩)],fro pp 0 [.pointer (some ⟨r,0,none⟩),.pointer (some ⟨b,0,none⟩),.int .u64 (limit:Nat),.int .u64 (fails:Nat),.int .u64 (wait:Nat)],fro gt 0 [.slice (some ⟨gb,0,none⟩) rs.length rs.length],all L] b1 o v→Rd [all [roS qb qo qc p8 rb gt gb r b pp limit fails wait rs sp L,arr y.1 0 [.int .i64 (i:Nat)]]] b1 o v:=fun h=>gg_ (gg_ h)
 have O:ThRo (all [roS qb qo qc p8 rb gt gb r b pp limit fails wait rs sp L,arr y.1 0 [.int .i64 (i:Nat)]]) p8 y.1 rb gt qb qo rs.length qc gb rs.length i r b pp z.1 z.2.1 z.2.2 :=
  {
   h1:=lift (.there (Rd.fro (k:=0) rfl rfl))
   h2:=lift (Rd.fro (k:=i) (by rw [List.getElem?_append_left (by rw [List.length_map];omega),List.getElem?_map,hz];rfl) rfl)
   h3:=fun q w hw=>by
    obtain ⟨b',o',e,r1,r2,r3⟩:=hdo.at_ q w hw
    refine ⟨b',o',e,fun m v hm=>?_⟩
    match m,hm with
    | 0,hm=>cases hm;exact lift (.there (.there (.there (.there (.there (gg_ r1))))))
    | 1,hm=>cases hm;exact lift (.there (.there (.there (.there (.there (gg_ r2))))))
    | 2,hm=>cases hm;exact lift (.there (.there (.there (.there (.there (gg_ r3))))))
   h4:=gg_ (.there (.row0 rfl))
   h5:=lift (.there (.there (Rd.fro (k:=0) rfl rfl)))
   h6:=lift (.there (.there (.there (.there (Rd.fro (k:=0) rfl rfl)))))
   h7:=lift (.there (.there (.there (Rd.fro (k:=0) rfl rfl))))
   h8:=lift (.there (.there (.there (Rd.fro (k:=1) rfl rfl))))
   hk:=by omega
   hl:=h16
   ok:=hdo.rng }
 show ThrOk (vp_ limit fails wait r b gb) (fun s=>(s,((i,t0Of y):Nat × Mach.Th))) (rpF p8 rb gt y) (thM _ gb i y)
 rw [ht0]
 exact cmg B hne O h1
theorem cmf {limit fails wait r b p8 rb gt gb:Nat} {RoS:HProp} {ts:List TH}:(gw_ limit fails wait r b p8 rb gt gb RoS ts).map Thr.M=ts.mapIdx (thM RoS gb):=by
 apply List.ext_getElem?
 intro k
 simp only [gw_,List.getElem?_map,List.getElem?_mapIdx]
 cases ts[k]? <;> rfl
theorem cgs {limit fails wait r b p8 rb gt gb:Nat} {RoS:HProp} {ts:List TH}:(gw_ limit fails wait r b p8 rb gt gb RoS ts).map Thr.fv=ts.map (rpF p8 rb gt):=by
 apply List.ext_getElem?
 intro k
 simp only [gw_,List.getElem?_map,List.getElem?_mapIdx]
 cases ts[k]? <;> rfl
theorem bzp {limit fails wait r b p8 rb gt gb:Nat} {RoS:HProp} {ts:List TH}:∀ t∈gw_ limit fails wait r b p8 rb gt gb RoS ts,∀ s,(t.ini s).1=s:=fun t ht s=>by
 obtain ⟨i,hi⟩:=List.mem_iff_getElem?.1 ht
 simp only [gw_,List.getElem?_mapIdx,Option.map_eq_some_iff] at hi
 obtain ⟨y,hy,rfl⟩:=hi
 rfl
end
end Go.Proofs.Ytnnpdmhmpgmpnaa
