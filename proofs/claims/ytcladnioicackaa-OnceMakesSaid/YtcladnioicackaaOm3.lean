/-
  Part 3 of 6.
-/
import Derived.Test.YtcladnioicackaaOm2
import Derived.Test.YtcladnioicackaaChecked
set_option linter.unusedVariables false
set_option linter.unusedSimpArgs false
namespace Go.PB
open Go
section
section
variable {P : Program} {B : Hand} {kd : CallKind} {n : Nat} {K : Post B} {e : Env} {z : Z} {L : List HProp} {x : B.X}
theorem wR {id : Nat} {ops : Array Oper} {l : List OpG} (k : Wo P B kd n l K e z L x) (hl : opsOf n ops = l := by simp only [opsOf, List.map_cons, List.map_nil, Option.map_none, Option.map_some, List.getElem?_toArray, List.getElem?_cons_zero, List.getElem?_cons_succ, Option.bind_some, Option.getD_some]; exact rfl) (hd : dOk n l = true := by exact rfl) : We P B kd n (.region id ops false) K e z L x := we_region l hl hd k
theorem wT {c : Operand} {a a' : Code} {q : Bool} (k : We P B kd n a K e z L x) (hc : ev e c = some (.bool q) := by exact rfl) (hq : q = true := by first | exact rfl | (simp <;> omega) | omega) : We P B kd n (.cond c a a') K e z L x := we_condT hc hq k
theorem wF {c : Operand} {a a' : Code} {q : Bool} (k : We P B kd n a' K e z L x) (hc : ev e c = some (.bool q) := by exact rfl) (hq : q = false := by first | exact rfl | (simp <;> omega) | omega) : We P B kd n (.cond c a a') K e z L x := we_condF hc hq k
variable [Lets B] {l : List OpG} {d : Option Nat} {ty : TypeId} {g : Option (Nat × Bool)}
theorem wS {t : TypeId} {o x1 : Operand} {b c : Nat} {v : Value} {L1 : List HProp} [sz : Siz P t 1] (k : Wo P B kd n l K (setE d undef e) z L1 x) (ha : ev e o = some (.pointer (some ⟨b, c, none⟩)) := by exact rfl) (hx : ev e x1 = some v := by exact rfl) (hv : one v = true := by exact rfl) (hw : Wt L b c v L1 := by apply Wt.row0; (repeat (first | exact Foc.here | apply Foc.there)); (first | exact Nat.lt_of_sub_eq_succ rfl | omega)) (hg : gYes e g := by first | exact trivial | exact rfl) : Wo P B kd n (⟨d, .store t o x1, ty, g⟩ :: l) K e z L x := wo_pm (mo_store ha hx hv hw) hg k
theorem wM {o : Operand} {v : Value} (k : Wo P B kd n l K (setE d v e) z L x) (hx : ev e o = some v := by exact rfl) (hg : gYes e g := by first | exact trivial | exact rfl) : Wo P B kd n (⟨d, .move o, ty, g⟩ :: l) K e z L x := wo_po (mo_move hx) hg k
theorem wA {o : Operand} {v : Value} (k : Wo P B kd n l K (setE d v e) z L x) (hx : ev e o = some v := by exact rfl) (hg : gYes e g := by first | exact trivial | exact rfl) : Wo P B kd n (⟨d, .assign o, ty, g⟩ :: l) K e z L x := wo_po (mo_assign hx) hg k
theorem wN {o : Operand} {a : Addr} (k : Wo P B kd n l K (setE d (.pointer (some a)) e) z L x) (hx : ev e o = some (.pointer (some a)) := by exact rfl) (hg : gYes e g := by first | exact trivial | exact rfl) : Wo P B kd n (⟨d, .nilCheck o, ty, g⟩ :: l) K e z L x := wo_po (mo_nilCheck hx) hg k
theorem wD {s f off ft fz : Nat} {o : Operand} {b c r : Nat} [p : Fld P s f off ft fz] (k : Wo P B kd n l K (setE d (.pointer (some ⟨b, r, none⟩)) e) z L x) (hz : (fz == 0) = false := by exact rfl) (hx : ev e o = some (.pointer (some ⟨b, c, none⟩)) := by exact rfl) (hr : c + off = r := by first | exact Nat.zero_add _ | exact rfl) (hg : gYes e g := by first | exact trivial | exact rfl) : Wo P B kd n (⟨d, .fieldAddr s o f, ty, g⟩ :: l) K e z L x := wo_po (mo_fieldAddr hz hx hr) hg k
theorem wL {t : TypeId} {o : Operand} {b c : Nat} {v : Value} [p : Scal P t] (k : Wo P B kd n l K (setE d v e) z L x) (ha : ev e o = some (.pointer (some ⟨b, c, none⟩)) := by exact rfl) (hr : Rd L b c v := by repeat (first | exact Rd.row0 rfl | exact Rd.row rfl rfl | exact Rd.still | apply Rd.there)) (hg : gYes e g := by first | exact trivial | exact rfl) : Wo P B kd n (⟨d, .load t o, ty, g⟩ :: l) K e z L x := wo_po (mo_load ha hr) hg k
theorem wE {o : Operand} {st el : Nat} {a : Option Addr} {m c : Nat} [p : SlT P st el] (k : Wo P B kd n l K (setE d (.int .i64 m) e) z L x) (hx : ev e o = some (.slice a m c) := by exact rfl) (hg : gYes e g := by first | exact trivial | exact rfl) : Wo P B kd n (⟨d, .call ⟨.builtin .len, #[o], #[st]⟩, ty, g⟩ :: l) K e z L x := wo_po (mo_len hx) hg k
theorem wK {c o o1 : Operand} {v : Value} {q : Bool} (k : Wo P B kd n l K (setE d v e) z L x) (hc : ev e c = some (.bool q) := by exact rfl) (hq : q = true := by exact rfl) (hx : ev e o = some v := by exact rfl) (hg : gYes e g := by first | exact trivial | exact rfl) : Wo P B kd n (⟨d, .pick c o o1, ty, g⟩ :: l) K e z L x := wo_po (mo_pickT hc hq hx) hg k
theorem wJ {c o o1 : Operand} {v : Value} {q : Bool} (k : Wo P B kd n l K (setE d v e) z L x) (hc : ev e c = some (.bool q) := by exact rfl) (hq : q = false := by exact rfl) (hx : ev e o1 = some v := by exact rfl) (hg : gYes e g := by first | exact trivial | exact rfl) : Wo P B kd n (⟨d, .pick c o o1, ty, g⟩ :: l) K e z L x := wo_po (mo_pickF hc hq hx) hg k
theorem weqlT {xt yt : TypeId} {x1 y1 : Operand} {kk : IntKind} {a b : Int} (k : Wo P B kd n l K (setE d (.bool true) e) z L x) (hx : ev e x1 = some (.int kk a) := by exact rfl) (hy : ev e y1 = some (.int kk b) := by exact rfl) (h : a = b := by omega) (hg : gYes e g := by first | exact trivial | exact rfl) : Wo P B kd n (⟨d, .binOp .eql xt x1 y1 yt, ty, g⟩ :: l) K e z L x := wo_po (mo_bin hx hy (bin_eqlT h)) hg k
theorem weqlF {xt yt : TypeId} {x1 y1 : Operand} {kk : IntKind} {a b : Int} (k : Wo P B kd n l K (setE d (.bool false) e) z L x) (hx : ev e x1 = some (.int kk a) := by exact rfl) (hy : ev e y1 = some (.int kk b) := by exact rfl) (h : ¬ (a = b) := by omega) (hg : gYes e g := by first | exact trivial | exact rfl) : Wo P B kd n (⟨d, .binOp .eql xt x1 y1 yt, ty, g⟩ :: l) K e z L x := wo_po (mo_bin hx hy (bin_eqlF h)) hg k
theorem wneqT {xt yt : TypeId} {x1 y1 : Operand} {kk : IntKind} {a b : Int} (k : Wo P B kd n l K (setE d (.bool true) e) z L x) (hx : ev e x1 = some (.int kk a) := by exact rfl) (hy : ev e y1 = some (.int kk b) := by exact rfl) (h : ¬ (a = b) := by omega) (hg : gYes e g := by first | exact trivial | exact rfl) : Wo P B kd n (⟨d, .binOp .neq xt x1 y1 yt, ty, g⟩ :: l) K e z L x := wo_po (mo_bin hx hy (bin_neqT h)) hg k
theorem wneqF {xt yt : TypeId} {x1 y1 : Operand} {kk : IntKind} {a b : Int} (k : Wo P B kd n l K (setE d (.bool false) e) z L x) (hx : ev e x1 = some (.int kk a) := by exact rfl) (hy : ev e y1 = some (.int kk b) := by exact rfl) (h : a = b := by omega) (hg : gYes e g := by first | exact trivial | exact rfl) : Wo P B kd n (⟨d, .binOp .neq xt x1 y1 yt, ty, g⟩ :: l) K e z L x := wo_po (mo_bin hx hy (bin_neqF h)) hg k
theorem wlssT {xt yt : TypeId} {x1 y1 : Operand} {kk : IntKind} {a b : Int} (k : Wo P B kd n l K (setE d (.bool true) e) z L x) (hx : ev e x1 = some (.int kk a) := by exact rfl) (hy : ev e y1 = some (.int kk b) := by exact rfl) (h : a < b := by omega) (hg : gYes e g := by first | exact trivial | exact rfl) : Wo P B kd n (⟨d, .binOp .lss xt x1 y1 yt, ty, g⟩ :: l) K e z L x := wo_po (mo_bin hx hy (bin_lssT h)) hg k
theorem wlssF {xt yt : TypeId} {x1 y1 : Operand} {kk : IntKind} {a b : Int} (k : Wo P B kd n l K (setE d (.bool false) e) z L x) (hx : ev e x1 = some (.int kk a) := by exact rfl) (hy : ev e y1 = some (.int kk b) := by exact rfl) (h : ¬ (a < b) := by omega) (hg : gYes e g := by first | exact trivial | exact rfl) : Wo P B kd n (⟨d, .binOp .lss xt x1 y1 yt, ty, g⟩ :: l) K e z L x := wo_po (mo_bin hx hy (bin_lssF h)) hg k
theorem wleqT {xt yt : TypeId} {x1 y1 : Operand} {kk : IntKind} {a b : Int} (k : Wo P B kd n l K (setE d (.bool true) e) z L x) (hx : ev e x1 = some (.int kk a) := by exact rfl) (hy : ev e y1 = some (.int kk b) := by exact rfl) (h : a ≤ b := by omega) (hg : gYes e g := by first | exact trivial | exact rfl) : Wo P B kd n (⟨d, .binOp .leq xt x1 y1 yt, ty, g⟩ :: l) K e z L x := wo_po (mo_bin hx hy (bin_leqT h)) hg k
theorem wleqF {xt yt : TypeId} {x1 y1 : Operand} {kk : IntKind} {a b : Int} (k : Wo P B kd n l K (setE d (.bool false) e) z L x) (hx : ev e x1 = some (.int kk a) := by exact rfl) (hy : ev e y1 = some (.int kk b) := by exact rfl) (h : ¬ (a ≤ b) := by omega) (hg : gYes e g := by first | exact trivial | exact rfl) : Wo P B kd n (⟨d, .binOp .leq xt x1 y1 yt, ty, g⟩ :: l) K e z L x := wo_po (mo_bin hx hy (bin_leqF h)) hg k
theorem wgtrT {xt yt : TypeId} {x1 y1 : Operand} {kk : IntKind} {a b : Int} (k : Wo P B kd n l K (setE d (.bool true) e) z L x) (hx : ev e x1 = some (.int kk a) := by exact rfl) (hy : ev e y1 = some (.int kk b) := by exact rfl) (h : b < a := by omega) (hg : gYes e g := by first | exact trivial | exact rfl) : Wo P B kd n (⟨d, .binOp .gtr xt x1 y1 yt, ty, g⟩ :: l) K e z L x := wo_po (mo_bin hx hy (bin_gtrT h)) hg k
theorem wgtrF {xt yt : TypeId} {x1 y1 : Operand} {kk : IntKind} {a b : Int} (k : Wo P B kd n l K (setE d (.bool false) e) z L x) (hx : ev e x1 = some (.int kk a) := by exact rfl) (hy : ev e y1 = some (.int kk b) := by exact rfl) (h : ¬ (b < a) := by omega) (hg : gYes e g := by first | exact trivial | exact rfl) : Wo P B kd n (⟨d, .binOp .gtr xt x1 y1 yt, ty, g⟩ :: l) K e z L x := wo_po (mo_bin hx hy (bin_gtrF h)) hg k
theorem wgeqT {xt yt : TypeId} {x1 y1 : Operand} {kk : IntKind} {a b : Int} (k : Wo P B kd n l K (setE d (.bool true) e) z L x) (hx : ev e x1 = some (.int kk a) := by exact rfl) (hy : ev e y1 = some (.int kk b) := by exact rfl) (h : b ≤ a := by omega) (hg : gYes e g := by first | exact trivial | exact rfl) : Wo P B kd n (⟨d, .binOp .geq xt x1 y1 yt, ty, g⟩ :: l) K e z L x := wo_po (mo_bin hx hy (bin_geqT h)) hg k
theorem wgeqF {xt yt : TypeId} {x1 y1 : Operand} {kk : IntKind} {a b : Int} (k : Wo P B kd n l K (setE d (.bool false) e) z L x) (hx : ev e x1 = some (.int kk a) := by exact rfl) (hy : ev e y1 = some (.int kk b) := by exact rfl) (h : ¬ (b ≤ a) := by omega) (hg : gYes e g := by first | exact trivial | exact rfl) : Wo P B kd n (⟨d, .binOp .geq xt x1 y1 yt, ty, g⟩ :: l) K e z L x := wo_po (mo_bin hx hy (bin_geqF h)) hg k
theorem wadd {xt yt : TypeId} {x1 y1 : Operand} {kk : IntKind} {a b r : Int} (k : Wo P B kd n l K (setE d (.int kk r) e) z L x) (hx : ev e x1 = some (.int kk a) := by exact rfl) (hy : ev e y1 = some (.int kk b) := by exact rfl) (h : kk.wrap (a + b) = r := by exact wrap_i64 (by omega) (by omega)) (hg : gYes e g := by first | exact trivial | exact rfl) : Wo P B kd n (⟨d, .binOp .add xt x1 y1 yt, ty, g⟩ :: l) K e z L x := wo_po (mo_bin hx hy (bin_add h)) hg k
theorem wsub {xt yt : TypeId} {x1 y1 : Operand} {kk : IntKind} {a b r : Int} (k : Wo P B kd n l K (setE d (.int kk r) e) z L x) (hx : ev e x1 = some (.int kk a) := by exact rfl) (hy : ev e y1 = some (.int kk b) := by exact rfl) (h : kk.wrap (a - b) = r := by exact wrap_i64 (by omega) (by omega)) (hg : gYes e g := by first | exact trivial | exact rfl) : Wo P B kd n (⟨d, .binOp .sub xt x1 y1 yt, ty, g⟩ :: l) K e z L x := wo_po (mo_bin hx hy (bin_sub h)) hg k
end
section
variable {P : Program} {B : Hand} {kd : CallKind} {n : Nat} {ops : Array Oper} {ord R : List Nat} {Pd : List Pn} {K : Post B} {e : Env} {z : Z} {L : List HProp} {x : B.X} {i : Nat} {v : Value} {d : Option Nat} {ty : TypeId} {pos : String} {after : Array Edge} {g : Option (Nat × Bool)}
theorem aM {o : Operand} (k : Ap P B kd n ops ord R (⟨i, v, resE (readsOf n ops i) e, true⟩ :: Pd) K (setE d v e) z L x) (ho : nth ops.toList i = some ⟨d, .move o, ty, pos, after, g⟩ := by exact rfl) (hg : gYes (resE (readsOf n ops i) e) (guardOf n ops ⟨d, .move o, ty, pos, after, g⟩) := by first | exact trivial | exact rfl) (hx : ev (resE (readsOf n ops i) e) o = some v := by exact rfl) : Ap P B kd n ops ord (i :: R) Pd K e z L x := ap_pure ho rfl hg (fun L => mo_move hx) k
theorem aA {o : Operand} (k : Ap P B kd n ops ord R (⟨i, v, resE (readsOf n ops i) e, true⟩ :: Pd) K (setE d v e) z L x) (ho : nth ops.toList i = some ⟨d, .assign o, ty, pos, after, g⟩ := by exact rfl) (hg : gYes (resE (readsOf n ops i) e) (guardOf n ops ⟨d, .assign o, ty, pos, after, g⟩) := by first | exact trivial | exact rfl) (hx : ev (resE (readsOf n ops i) e) o = some v := by exact rfl) : Ap P B kd n ops ord (i :: R) Pd K e z L x := ap_pure ho rfl hg (fun L => mo_assign hx) k
theorem aN {o : Operand} {a : Addr} (k : Ap P B kd n ops ord R (⟨i, (.pointer (some a)), resE (readsOf n ops i) e, true⟩ :: Pd) K (setE d (.pointer (some a)) e) z L x) (ho : nth ops.toList i = some ⟨d, .nilCheck o, ty, pos, after, g⟩ := by exact rfl) (hg : gYes (resE (readsOf n ops i) e) (guardOf n ops ⟨d, .nilCheck o, ty, pos, after, g⟩) := by first | exact trivial | exact rfl) (hx : ev (resE (readsOf n ops i) e) o = some (.pointer (some a)) := by exact rfl) : Ap P B kd n ops ord (i :: R) Pd K e z L x := ap_pure ho rfl hg (fun L => mo_nilCheck hx) k
theorem aD {s f off ft fz : Nat} {o : Operand} {b c r : Nat} (k : Ap P B kd n ops ord R (⟨i, (.pointer (some ⟨b, r, none⟩)), resE (readsOf n ops i) e, true⟩ :: Pd) K (setE d (.pointer (some ⟨b, r, none⟩)) e) z L x) (ho : nth ops.toList i = some ⟨d, .fieldAddr s o f, ty, pos, after, g⟩ := by exact rfl) (hg : gYes (resE (readsOf n ops i) e) (guardOf n ops ⟨d, .fieldAddr s o f, ty, pos, after, g⟩) := by first | exact trivial | exact rfl) (p : Fld P s f off ft fz := by infer_instance) (hz : (fz == 0) = false := by exact rfl) (hx : ev (resE (readsOf n ops i) e) o = some (.pointer (some ⟨b, c, none⟩)) := by exact rfl) (hr : c + off = r := by first | exact Nat.zero_add _ | exact rfl) : Ap P B kd n ops ord (i :: R) Pd K e z L x := ap_pure ho rfl hg (fun L => mo_fieldAddr (p := p) hz hx hr) k
theorem aL {t : TypeId} {o : Operand} {b c : Nat} (k : Ap P B kd n ops ord R (⟨i, v, resE (readsOf n ops i) e, false⟩ :: Pd) K (setE d v e) z L x) (ho : nth ops.toList i = some ⟨d, .load t o, ty, pos, after, g⟩ := by exact rfl) (hg : gYes (resE (readsOf n ops i) e) (guardOf n ops ⟨d, .load t o, ty, pos, after, g⟩) := by first | exact trivial | exact rfl) (p : Scal P t := by infer_instance) (ha : ev (resE (readsOf n ops i) e) o = some (.pointer (some ⟨b, c, none⟩)) := by exact rfl) (hr : Rd L b c v := by repeat (first | exact Rd.row0 rfl | exact Rd.row rfl rfl | exact Rd.still | apply Rd.there)) : Ap P B kd n ops ord (i :: R) Pd K e z L x := ap_read ho rfl hg (mo_load (p := p) ha hr) k
end
section
variable {P : Program} {B : Hand} {kd : CallKind} {n : Nat} {e : Env} {L : List HProp} {x : B.X} {f : FuncId} {fn : Func} {t1 t2 t3 : Nat} {v1 v2 v3 : Value} {um : FrameMode} {Q : End → FrameMode → Hp → B.X → Prop} {R : Value → List HProp → B.X → Prop}
theorem or0 (hf : P.funcs[f]? = some fn) (hr : fn.results = #[]) (q : ∀ v L' x' h', R v L' x' → Star L' h' → Q (.ret v) um h' x') (hR : R (.tuple #[]) L x) : At n e L fun t h => leave P B f kd Q .ret t ⟨[], um⟩ h x := at_ret0 hf hr q (.inl rfl) hR
theorem or1 (hf : P.funcs[f]? = some fn) (hr : fn.results = #[.tmp t1]) (q : ∀ v L' x' h', R v L' x' → Star L' h' → Q (.ret v) um h' x') (h1 : lk e t1 = some v1) (hR : R v1 L x) : At n e L fun t h => leave P B f kd Q .ret t ⟨[], um⟩ h x := at_ret1 hf hr q (.inl rfl) h1 hR
theorem or2 (hf : P.funcs[f]? = some fn) (hr : fn.results = #[.tmp t1, .tmp t2]) (q : ∀ v L' x' h', R v L' x' → Star L' h' → Q (.ret v) um h' x') (h1 : lk e t1 = some v1) (h2 : lk e t2 = some v2) (hR : R (.tuple #[v1, v2]) L x) : At n e L fun t h => leave P B f kd Q .ret t ⟨[], um⟩ h x := at_ret2 hf hr q (.inl rfl) h1 h2 hR
theorem or3 (hf : P.funcs[f]? = some fn) (hr : fn.results = #[.tmp t1, .tmp t2, .tmp t3]) (q : ∀ v L' x' h', R v L' x' → Star L' h' → Q (.ret v) um h' x') (h1 : lk e t1 = some v1) (h2 : lk e t2 = some v2) (h3 : lk e t3 = some v3) (hR : R (.tuple #[v1, v2, v3]) L x) : At n e L fun t h => leave P B f kd Q .ret t ⟨[], um⟩ h x := at_ret3 hf hr q (.inl rfl) h1 h2 h3 hR
theorem on0 (hf : P.funcs[f]? = some fn) (hr : fn.results = #[]) (q : ∀ v L' x' h', R v L' x' → Star L' h' → Q (.ret v) um h' x') (hR : R (.tuple #[]) L x) : At n e L fun t h => leave P B f kd Q .normal t ⟨[], um⟩ h x := at_ret0 hf hr q (.inr rfl) hR
theorem on1 (hf : P.funcs[f]? = some fn) (hr : fn.results = #[.tmp t1]) (q : ∀ v L' x' h', R v L' x' → Star L' h' → Q (.ret v) um h' x') (h1 : lk e t1 = some v1) (hR : R v1 L x) : At n e L fun t h => leave P B f kd Q .normal t ⟨[], um⟩ h x := at_ret1 hf hr q (.inr rfl) h1 hR
theorem on2 (hf : P.funcs[f]? = some fn) (hr : fn.results = #[.tmp t1, .tmp t2]) (q : ∀ v L' x' h', R v L' x' → Star L' h' → Q (.ret v) um h' x') (h1 : lk e t1 = some v1) (h2 : lk e t2 = some v2) (hR : R (.tuple #[v1, v2]) L x) : At n e L fun t h => leave P B f kd Q .normal t ⟨[], um⟩ h x := at_ret2 hf hr q (.inr rfl) h1 h2 hR
theorem on3 (hf : P.funcs[f]? = some fn) (hr : fn.results = #[.tmp t1, .tmp t2, .tmp t3]) (q : ∀ v L' x' h', R v L' x' → Star L' h' → Q (.ret v) um h' x') (h1 : lk e t1 = some v1) (h2 : lk e t2 = some v2) (h3 : lk e t3 = some v3) (hR : R (.tuple #[v1, v2, v3]) L x) : At n e L fun t h => leave P B f kd Q .normal t ⟨[], um⟩ h x := at_ret3 hf hr q (.inr rfl) h1 h2 h3 hR
theorem gY {e : Env} {g : Option (Nat × Bool)} (h : gYes e g := by first | exact trivial | exact rfl) : gYes e g := h
theorem oS {α : Type} {a b : α} : (some a).getD b = a := rfl
end
end
end Go.PB
namespace Go.PB
section
theorem star_upd {b o : Nat} {v v0 : Value} {c c' : HProp} {L : List HProp} {h : Hp} (hc : ∀ h, c h → h.own b o = some v0) (hu : ∀ h, c h → c' (h.set b o v)) (s : Star (c :: L) h) :
  (h.own b o).isSome = true ∧ Star (c' :: L) (h.set b o v) := by
 obtain ⟨h1, h2, s1, ha, hL⟩ := s
 have h1k := hc h1 ha
 have hown := s1.o1 _ _ _ h1k
 have h2k : h2.own b o = none := (s1.od b o).resolve_left (by rw [h1k]; simp)
 refine ⟨by rw [hown]; rfl, h1.set b o v, h2, ⟨s1.r1, s1.r2, ?_, ?_, ?_, s1.b1, s1.b2, s1.bd, s1.s1, s1.s2⟩, hu _ ha, hL⟩
 ·intro b' o' v' e
  simp only [Hp.set] at e ⊢
  split at e
  ·rename_i hh; simp [hh, e]
  ·rename_i hh; simp only [hh, if_false]; exact s1.o1 _ _ _ e
 ·intro b' o' v' e
  simp only [Hp.set]
  rw [if_neg (by rintro ⟨rfl, rfl⟩; rw [h2k] at e; cases e)]
  exact s1.o2 _ _ _ e
 ·intro b' o'
  simp only [Hp.set]
  split
  ·rename_i hh; obtain ⟨rfl, rfl⟩ := hh; exact .inr h2k
  ·exact s1.od _ _
theorem Wt.upd {b o : Nat} {v v0 : Value} {c c' : HProp} {L F : List HProp} (hh : Has L c F) (hc : ∀ h, c h → h.own b o = some v0) (hu : ∀ h, c h → c' (h.set b o v)) : Wt L b o v (c' :: F) :=
 fun h s => star_upd hc hu (hh.star s)
def wds (addr : Nat → Nat × Nat) (N : Nat) (K : List (Nat × Nat × Value)) (m : Nat → Nat) : HProp := fun h =>
 (∀ w, w < N → m w < 18446744073709551616 ∧ h.own (addr w).1 (addr w).2 = some (.int .u64 (m w : Nat))) ∧ ∀ k ∈ K, h.own k.1 k.2.1 = some k.2.2
def upd (m : Nat → Nat) (w n : Nat) : Nat → Nat := fun i => if i = w then n else m i
theorem upd_same {m : Nat → Nat} {w n : Nat} : upd m w n w = n := by simp [upd]
theorem upd_other {m : Nat → Nat} {w n i : Nat} (h : i ≠ w) : upd m w n i = m i := by simp [upd, h]
structure Apart (addr : Nat → Nat × Nat) (N : Nat) (K : List (Nat × Nat × Value)) : Prop where
 inj : ∀ i j, i < N → j < N → addr i = addr j → i = j
 fix : ∀ i, i < N → ∀ k ∈ K, addr i ≠ (k.1, k.2.1)
variable {addr : Nat → Nat × Nat} {N : Nat} {K : List (Nat × Nat × Value)} {m : Nat → Nat} {L F : List HProp} {b o w : Nat}
theorem rd_wds (hh : Has L (wds addr N K m) F) (hw : w < N) (ha : addr w = (b, o)) : Rd L b o (.int .u64 (m w : Nat)) :=
 Rd.of hh fun h s => by
  obtain ⟨h1, h2, s1, hc, _⟩ := s
  have := (hc.1 w hw).2
  rw [ha] at this
  exact ⟨rfl, .inl (s1.o1 _ _ _ this)⟩
theorem wt_wds (A : Apart addr N K) (hh : Has L (wds addr N K m) F) (hw : w < N) (ha : addr w = (b, o)) {n : Nat} (hn : n < 18446744073709551616) : Wt L b o (.int .u64 (n : Nat)) (wds addr N K (upd m w n) :: F) := by
 refine Wt.upd (v0 := .int .u64 (m w : Nat)) hh (fun h hc => ?_) (fun h hc => ⟨fun i hi => ?_, fun k hk => ?_⟩)
 ·have := (hc.1 w hw).2
  rwa [ha] at this
 ·by_cases e : i = w
  ·subst e
   rw [upd_same, ha]
   exact ⟨hn, by simp [Hp.set]⟩
  ·rw [upd_other e]
   refine ⟨(hc.1 i hi).1, ?_⟩
   have : ¬ ((addr i).1 = b ∧ (addr i).2 = o) := fun ⟨h1, h2⟩ => e (A.inj i w hi hw (by rw [ha, ← h1, ← h2]))
   simp only [Hp.set, if_neg this]
   exact (hc.1 i hi).2
 ·have : ¬ (k.1 = b ∧ k.2.1 = o) := fun ⟨h1, h2⟩ => A.fix w hw k hk (by rw [ha, ← h1, ← h2])
  simp only [Hp.set, if_neg this]
  exact hc.2 k hk
section
variable {P : Program} {B : Hand} {x : B.X}
theorem tr_pure {f : FuncId} {args : List Value} {R : Value → List HProp → B.X → Prop} {p : Prop} (h0 : ∀ h, Star L h → p) (t : p → Tr P B f args L x R) : Tr P B f args L x R :=
 fun h um Q hs q pn => t (h0 h hs) h um Q hs q pn
theorem tr_star {f : FuncId} {args : List Value} {R : Value → List HProp → B.X → Prop} (L' : List HProp) (s : ∀ h, Star L h → Star L' h) (t : Tr P B f args L' x R) : Tr P B f args L x R :=
 fun h um Q hs q pn => t h um Q (s h hs) q pn
theorem Tr.post {f : FuncId} {args : List Value} {R R' : Value → List HProp → B.X → Prop} (t : Tr P B f args L x R) (s : ∀ v L' x', R v L' x' → ∃ L'', R' v L'' x' ∧ ∀ h, Star L' h → Star L'' h) : Tr P B f args L x R' :=
 fun h um Q hs q pn => t h um Q hs (fun v L' x' h' r st => by
  obtain ⟨L'', r', s'⟩ := s v L' x' r
  exact q v L'' x' h' r' (s' h' st)) pn
theorem tr_ex {α : Type} {c : α → HProp} {f : FuncId} {args : List Value} {R : Value → List HProp → B.X → Prop} (hh : Has L (fun h => ∃ a, c a h) F) (t : ∀ a, Tr P B f args (c a :: F) x R) : Tr P B f args L x R :=
 fun h um Q hs q pn => by
  obtain ⟨a, s⟩ := star_ex (hh.star hs)
  exact t a h um Q s q pn
end
theorem we_star {P : Program} {B : Hand} {kd : CallKind} {n : Nat} {K : Post B} {e : Env} {z : Z} {x : B.X} {c : Code} (L' : List HProp) (s : ∀ h, Star L h → Star L' h) (a : We P B kd n c K e z L' x) : We P B kd n c K e z L x := at_star L' s a
theorem we_pure {P : Program} {B : Hand} {kd : CallKind} {n : Nat} {K : Post B} {e : Env} {z : Z} {x : B.X} {c : Code} {p : Prop} (h0 : ∀ h, Star L h → p) (a : p → We P B kd n c K e z L x) : We P B kd n c K e z L x :=
 fun t h a1 a2 a3 => a (h0 h a3) t h a1 a2 a3
theorem wo_pure {P : Program} {B : Hand} {kd : CallKind} {n : Nat} {K : Post B} {e : Env} {z : Z} {x : B.X} {l : List OpG} {p : Prop} (h0 : ∀ h, Star L h → p) (a : p → Wo P B kd n l K e z L x) : Wo P B kd n l K e z L x :=
 fun ops idx h1 h2 t h a1 a2 a3 => a (h0 h a3) ops idx h1 h2 t h a1 a2 a3
theorem ap_know {P : Program} {B : Hand} {kd : CallKind} {n : Nat} {K : Post B} {e : Env} {z : Z} {x : B.X} {ops : Array Oper} {ord R : List Nat} {Pd : List Pn} {p : Prop} (h0 : ∀ h, Star L h → p) (k : p → Ap P B kd n ops ord R Pd K e z L x) : Ap P B kd n ops ord R Pd K e z L x :=
 fun a b c idx t h i s => k (h0 h s) a b c idx t h i s
theorem at_again {P : Program} {B : Hand} {kd : CallKind} {n : Nat} {K : Post B} {e e0 : Env} {z : Z} {x : B.X} {c : Code} {L' : List HProp} (w : We P B kd n c (inLp (Wl P B kd c K) K) e0 z L' x) (he : Sub e0 e) (hL : Ent L L') : At n e L fun t h => Wl P B kd c K t z h x :=
 at_sub e0 he (at_ent _ hL (wle_step w))
theorem vec_shape {sz : Nat} {v : Value} {cs : List Value} (hz : 0 < sz) : ∀ h, vec sz v cs h → ∃ a n c, v = .slice a n c ∧ cs.length = n * sz ∧ n ≤ c ∧ (a = none → n = 0) ∧ ∀ y, a = some y → y = ⟨y.block, y.off, none⟩ := by
 rintro h (⟨rfl, rfl⟩ | ⟨b, o, n, c, sp, rfl, h1, h2, h3, h4⟩)
 ·exact ⟨none, 0, 0, rfl, by simp, by omega, fun _ => rfl, fun y hy => by cases hy⟩
 ·exact ⟨_, n, c, rfl, h1, h2, fun hy => (by cases hy), fun y hy => by cases hy; rfl⟩
theorem rd_vec {sz b o n c i : Nat} {cs : List Value} {v : Value} (hh : Has L (vec sz (.slice (some ⟨b, o, none⟩) n c) cs) F) (hi : cs[i]? = some v) : Rd L b (o + i) v :=
 Rd.of hh fun h s => by
  obtain ⟨h1, h2, s1, hc, _⟩ := s
  rcases hc with ⟨e, _⟩ | ⟨b', o', n', c', sp, e, h3, h4, h5, h6⟩
  ·cases e
  ·cases e
   refine ⟨rfl, .inl (s1.o1 _ _ _ (h6 i v ?_))⟩
   rw [List.getElem?_append_left (List.getElem?_eq_some_iff.1 hi).1]; exact hi
theorem zeros_one {n i : Nat} {v : Value} (h : i < n) : (zeros n [v])[i]? = some v := by
 have : zeros n [v] = List.replicate n v := by
  simp [zeros, List.flatten_replicate_singleton]
 rw [this]; simp [h]
def num (v : Nat) : Value := .int .u64 (v : Int)
def RdV (L : List HProp) (a : Option Addr) (l : List Nat) : Prop := ∀ i v, l[i]? = some v → ∃ b o, a = some ⟨b, o, none⟩ ∧ Rd L b (o + i) (num v)
theorem RdV.vec {a : Option Addr} {n c : Nat} {l : List Nat} (hh : Has L (vec 1 (.slice a n c) (l.map num)) F) (ha : ∀ y, a = some y → y = ⟨y.block, y.off, none⟩) (hn : a = none → l = []) : RdV L a l := by
 intro i v hi
 cases a with
 | none => rw [hn rfl] at hi; simp at hi
 | some y =>
  obtain ⟨b, o, sp⟩ := y
  cases ha _ rfl
  exact ⟨b, o, rfl, rd_vec hh (by simp [hi])⟩
theorem of_has {c : HProp} {p : Prop} (hh : Has L c F) (hc : ∀ h, c h → p) : ∀ h, Star L h → p := fun h s => by
 obtain ⟨h1, h2, s1, hx, _⟩ := hh.star s
 exact hc h1 hx
end
end Go.PB
namespace Go.PB.Mach
section
structure In where
 op : Nat
 on : Nat := 0
 a : Nat := 0
 b : Nat := 0
 c : Nat := 0
 d : Nat := 0
 n : Nat := 0
structure Cl where
 code : List In
 data : List Nat := []
structure Wd where
 words : List (List Nat)
 nl : Nat
structure Th where
 calls : List Cl
 call : Nat := 0
 pc : Nat := 0
 r : Nat → Nat := fun _ => 0
 ans : List (Bool × List Nat) := []
 over : Bool := false
def fin : In := { op := 23 }
def Th.cl (t : Th) : Cl := t.calls.getD t.call { code := [] }
def Th.next (t : Th) : In := t.cl.code.getD t.pc fin
def Th.put (t : Th) (i v : Nat) : Th := { t with r := upd t.r i (v % 18446744073709551616) }
def Th.tell (t : Th) (v : Nat) : Th := { t with ans := t.ans.modify t.call fun y => (y.1, y.2 ++ [v]) }
structure Wd.ok (w : Wd) : Prop where
 n : w.words.length < 1000000
 nl : w.nl < 1000000
 len : ∀ l ∈ w.words, l.length < 1000000
 lt : ∀ l ∈ w.words, ∀ v ∈ l, v < 18446744073709551616
def own (t0 : Th) (x : In) : Th :=
 let t := { t0 with pc := t0.pc + 1 }
 match x.op with
 | 6 => t.put x.a x.n
 | 7 => t.put x.a (t.r x.b)
 | 8 => t.put x.a (t.r x.b + t.r x.c + x.n)
 | 9 => t.put x.a (t.r x.b + 18446744073709551616 - t.r x.c)
 | 10 => t.put x.a (t.r x.b * t.r x.c)
 | 11 => t.put x.a (if t.r x.c = 0 then 0 else t.r x.b / t.r x.c)
 | 12 => t.put x.a (t.r x.b &&& t.r x.c)
 | 13 => t.put x.a (t.r x.b ||| t.r x.c)
 | 14 => t.put x.a (t.r x.b * 2 ^ x.n)
 | 15 => t.put x.a (t.r x.b / 2 ^ x.n)
 | 16 => t.put x.a (max (t.r x.b) (t.r x.c))
 | 17 => t.put x.a (t.cl.data.getD ((t.r x.b + x.n) % 18446744073709551616) 0)
 | 18 => { t with pc := x.n }
 | 19 => if t.r x.a = t.r x.b then { t with pc := x.n } else t
 | 20 => if t.r x.a < t.r x.b then { t with pc := x.n } else t
 | 21 => if 9223372036854775808 ≤ t.r x.a then { t with pc := x.n } else t
 | 22 => t.tell (t.r x.a)
 | _ => t
def told (op : Nat) : Bool := 1 ≤ op && op ≤ 5
def Th.begun (t : Th) : Th := if t.ans.length = t.call then { t with ans := t.ans ++ [(false, [])] } else t
def Th.done (t : Th) : Th := { t with ans := t.ans.modify t.call fun y => (true, y.2), call := t.call + 1, pc := 0, r := fun _ => 0 }
def onF : Nat → Th → Option Th
 | 0, _ => none
 | f + 1, t =>
  if t.over = true then some t
  else if t.calls.length ≤ t.call then some { t with over := true }
  else if told t.begun.next.op = true then some t.begun
  else if t.begun.next.op = 23 then onF f t.begun.done
  else onF f (own t.begun t.begun.next)
def Th.place (t : Th) : Nat := (t.r t.next.b + t.next.n) % 18446744073709551616
def op1 (x : In) (l : List Nat) (p : Nat) (r : Nat → Nat) : List Nat × (Nat → Nat) :=
 let v := l.getD p 0
 match x.op with
 | 1 => (l, upd r x.a v)
 | 2 => (l.set p (r x.a), r)
 | 3 => (l.set p ((v + r x.c) % 18446744073709551616), upd r x.a ((v + r x.c) % 18446744073709551616))
 | 4 => (l.set p (r x.c), upd r x.a v)
 | _ => if v = r x.c then (l.set p (r x.d), upd r x.a 1) else (l, upd r x.a 0)
def Wd.row (w : Wd) (on : Nat) : List Nat := w.words.getD on []
def opF (f : Nat) (w : Wd) (t : Th) : Option (Wd × Th) :=
 if t.place < (w.row t.next.on).length then
  let y := op1 t.next (w.row t.next.on) t.place t.r
  (onF f { t with pc := t.pc + 1, r := y.2 }).map fun t' => ({ w with words := w.words.set t.next.on y.1 }, t')
 else none
def Th.mark (t : Th) : Nat × Nat := (t.next.op, t.place)
structure St where
 w : Wd
 l : List Th
 tr : List (Nat × Nat × Nat) := []
def turn (f : Nat) (s : St) (k : Nat) : Option St :=
 match s.l[k]? with
 | some t => (opF f s.w t).map fun y => ⟨y.1, s.l.set k y.2, s.tr ++ [(k, t.mark)]⟩
 | none => some s
def may (s : St) (k : Nat) : Bool := s.tr.length < 16384 && (match s.l[k]? with | some t => !t.over | none => false)
def byOrder (f : Nat) : St → List (Option Nat) → Option St
 | s, [] => some s
 | s, none :: o => byOrder f s o
 | s, some k :: o => if may s k = true then (turn f s k).bind fun s => byOrder f s o else byOrder f s o
def round (f : Nat) : Nat → Nat → St → Bool → Option (St × Bool)
 | 0, _, s, q => some (s, q)
 | m + 1, k, s, q => if may s k = true then (turn f s k).bind fun s => round f m (k + 1) s true else round f m (k + 1) s q
def rounds (f : Nat) : Nat → St → Option St
 | 0, _ => none
 | g + 1, s => (round f s.l.length 0 s false).bind fun y => if y.2 = true then rounds f g y.1 else some y.1
def begin_ (f : Nat) : List Th → Option (List Th)
 | [] => some []
 | t :: l => (onF f t).bind fun t => (begin_ f l).map fun l => t :: l
def play (f g : Nat) (w : Wd) (o : List (Option Nat)) (l : List (List Cl)) : Option St :=
 (begin_ f (l.map fun c => { calls := c })).bind fun l => (byOrder f ⟨w, l, []⟩ o).bind fun s => rounds f g s
def In.ok (x : In) : Bool := 1 ≤ x.op && x.op ≤ 23 && x.a < 24 && x.b < 24 && x.c < 24 && x.d < 24 && x.on < 1000 && x.n < 18446744073709551616 && (!(18 ≤ x.op && x.op ≤ 21) || x.n < 1000000) && (!(x.op = 17) || !(x.a = x.b)) && (!(x.op = 14 || x.op = 15) || x.n < 64)
def Cl.ok (c : Cl) : Bool := c.code.all In.ok && c.data.all (fun v => v < 18446744073709551616) && c.code.length < 1000000 && c.data.length < 1000000
end
section
def T (cs : List Cl) (c p : Nat) (r : Nat → Nat) (pre : List (Bool × List Nat)) (said : List Nat) : Th := { calls := cs, call := c, pc := p, r := r, ans := pre ++ [(false, said)], over := false }
def Bt (cs : List Cl) (c : Nat) (pre : List (Bool × List Nat)) : Th := { calls := cs, call := c, ans := pre }
def Goes (k : Nat) (t t' : Th) : Prop := ∀ f, onF (f + k) t = onF f t'
theorem Goes.on {k f : Nat} {t t' t'' : Th} (a : Goes k t t') (h : onF f t' = some t'') : onF (f + k) t = some t'' := by rw [a, h]
theorem Goes.on1 {f : Nat} {t t' t'' : Th} (a : Goes 1 t t') (h : onF f t' = some t'') : onF (f + 1) t = some t'' := a.on h
theorem onF_more : ∀ {f : Nat} {t t' : Th} {k : Nat}, onF f t = some t' → onF (f + k) t = some t' := by
 intro f
 induction f with
 | zero => intro t t' k h; cases h
 | succ f ih =>
  intro t t' k h
  rw [show f + 1 + k = (f + k) + 1 by omega]
  unfold onF at h ⊢
  split at h
  ·rename_i h1; rw [if_pos h1]; exact h
  rename_i h1; rw [if_neg h1]
  split at h
  ·rename_i h2; rw [if_pos h2]; exact h
  rename_i h2; rw [if_neg h2]
  split at h
  ·rename_i h3; rw [if_pos h3]; exact h
  rename_i h3; rw [if_neg h3]
  split at h
  ·rename_i h4; rw [if_pos h4]; exact ih h
  ·rename_i h4; rw [if_neg h4]; exact ih h
section
variable {cs : List Cl} {cl : Cl} {c p : Nat} {r : Nat → Nat} {pre : List (Bool × List Nat)} {said : List Nat} {x : In}
theorem T_begun (hp : pre.length = c) : (T cs c p r pre said).begun = T cs c p r pre said := by
 unfold Th.begun
 rw [if_neg]
 simp [T, hp]
theorem T_next (hc : cs[c]? = some cl) (h : cl.code[p]? = some x) : (T cs c p r pre said).next = x := by
 unfold Th.next Th.cl
 simp only [T, List.getD_eq_getElem?_getD, hc, Option.getD_some, h]
theorem T_next_none (hc : cs[c]? = some cl) (h : cl.code[p]? = none) : (T cs c p r pre said).next = fin := by
 unfold Th.next Th.cl
 simp only [T, List.getD_eq_getElem?_getD, hc, Option.getD_some, h, Option.getD_none]
theorem T_onF {f : Nat} (hc : cs[c]? = some cl) (hp : pre.length = c) : onF (f + 1) (T cs c p r pre said) =
  if told (T cs c p r pre said).next.op = true then some (T cs c p r pre said) else if (T cs c p r pre said).next.op = 23 then onF f (T cs c p r pre said).done else onF f (own (T cs c p r pre said) (T cs c p r pre said).next) := by
 have hlt : c < cs.length := (List.getElem?_eq_some_iff.1 hc).1
 rw [onF, if_neg (by simp [T]), if_neg (by simp only [T]; omega), T_begun hp]
theorem goes_own {t' : Th} (hc : cs[c]? = some cl) (hp : pre.length = c) (h : cl.code[p]? = some x) (h1 : told x.op = false) (h2 : x.op ≠ 23) (ho : own (T cs c p r pre said) x = t') : Goes 1 (T cs c p r pre said) t' := fun f => by
 rw [T_onF hc hp, T_next hc h, if_neg (by rw [h1]; decide), if_neg h2, ho]
theorem on_stop {f : Nat} (hc : cs[c]? = some cl) (hp : pre.length = c) (h : cl.code[p]? = some x) (h1 : told x.op = true) : onF (f + 1) (T cs c p r pre said) = some (T cs c p r pre said) := by
 rw [T_onF hc hp, T_next hc h, if_pos h1]
variable {on a b cc d n : Nat}
theorem goes_set (hc : cs[c]? = some cl) (hp : pre.length = c) (h : cl.code[p]? = some ⟨6, on, a, b, cc, d, n⟩) : Goes 1 (T cs c p r pre said) (T cs c (p + 1) (upd r a (n % 18446744073709551616)) pre said) := goes_own hc hp h rfl (by simp) rfl
theorem goes_jump (hc : cs[c]? = some cl) (hp : pre.length = c) (h : cl.code[p]? = some ⟨18, on, a, b, cc, d, n⟩) : Goes 1 (T cs c p r pre said) (T cs c n r pre said) := goes_own hc hp h rfl (by simp) rfl
theorem goes_sameT (hc : cs[c]? = some cl) (hp : pre.length = c) (h : cl.code[p]? = some ⟨19, on, a, b, cc, d, n⟩) (e : r a = r b) : Goes 1 (T cs c p r pre said) (T cs c n r pre said) := goes_own hc hp h rfl (by simp) (if_pos e)
theorem goes_sameF (hc : cs[c]? = some cl) (hp : pre.length = c) (h : cl.code[p]? = some ⟨19, on, a, b, cc, d, n⟩) (e : ¬ r a = r b) : Goes 1 (T cs c p r pre said) (T cs c (p + 1) r pre said) := goes_own hc hp h rfl (by simp) (if_neg e)
theorem modify_last {l : List (Bool × List Nat)} {y : Bool × List Nat} {g : Bool × List Nat → Bool × List Nat} (h : l.length = c) : (l ++ [y]).modify c g = l ++ [g y] := by
 subst h
 induction l with
 | nil => rfl
 | cons a l ih => simp only [List.cons_append, List.length_cons, List.modify_succ_cons, ih]
theorem goes_tell (hc : cs[c]? = some cl) (hp : pre.length = c) (h : cl.code[p]? = some ⟨22, on, a, b, cc, d, n⟩) : Goes 1 (T cs c p r pre said) (T cs c (p + 1) r pre (said ++ [r a])) := goes_own hc hp h rfl (by simp) (by
 show Th.tell _ _ = _
 unfold Th.tell T
 dsimp only
 rw [modify_last hp])
theorem done_T (hp : pre.length = c) : (T cs c p r pre said).done = Bt cs (c + 1) (pre ++ [(true, said)]) := by
 unfold Th.done T Bt
 dsimp only
 rw [modify_last hp]
theorem goes_end (hc : cs[c]? = some cl) (hp : pre.length = c) (h : cl.code[p]? = none) : Goes 1 (T cs c p r pre said) (Bt cs (c + 1) (pre ++ [(true, said)])) := fun f => by
 rw [T_onF hc hp, T_next_none hc h, if_neg (show ¬ told fin.op = true by decide), if_pos (show fin.op = 23 from rfl), done_T hp]
theorem on_begin {f : Nat} (hc : cs[c]? = some cl) (hp : pre.length = c) : onF (f + 1) (Bt cs c pre) = onF (f + 1) (T cs c 0 (fun _ => 0) pre []) := by
 have hlt : c < cs.length := (List.getElem?_eq_some_iff.1 hc).1
 have hb : (Bt cs c pre).begun = T cs c 0 (fun _ => 0) pre [] := by
  unfold Th.begun Bt
  rw [if_pos hp]; rfl
 rw [T_onF hc hp, onF, if_neg (by simp [Bt]), if_neg (by simp only [Bt]; omega), hb]
theorem on_over {f : Nat} (hc : cs[c]? = none) : onF (f + 1) (Bt cs c pre) = some { Bt cs c pre with over := true } := by
 rw [onF, if_neg (by simp [Bt]), if_pos]
 simpa [Bt] using hc
theorem opF_at {f : Nat} {w : Wd} {l : List Nat} {q : Nat} {t' : Th} (hc : cs[c]? = some cl) (h : cl.code[p]? = some x) (hl : w.row x.on = l) (hq : (r x.b + x.n) % 18446744073709551616 = q) (hlt : q < l.length) (ho : onF f (T cs c (p + 1) (op1 x l q r).2 pre said) = some t') :
  opF f w (T cs c p r pre said) = some ({ w with words := w.words.set x.on (op1 x l q r).1 }, t') := by
 unfold opF
 have hn := T_next (r := r) (pre := pre) (said := said) hc h
 have hpl : (T cs c p r pre said).place = q := by unfold Th.place; rw [hn]; exact hq
 rw [hn, hpl, hl, if_pos hlt]
 dsimp only
 show (onF f (T cs c (p + 1) (op1 x l q r).2 pre said)).map _ = _
 rw [ho]; rfl
theorem mark_at {q : Nat} (hc : cs[c]? = some cl) (h : cl.code[p]? = some x) (hq : (r x.b + x.n) % 18446744073709551616 = q) : (T cs c p r pre said).mark = (x.op, q) := by
 have hn := T_next (r := r) (pre := pre) (said := said) hc h
 unfold Th.mark Th.place
 rw [hn]
 exact Prod.ext rfl hq
end
def soloF (f : Nat) : Nat → Wd → Th → List (Nat × Nat) → Option (Wd × Th × List (Nat × Nat))
 | 0, _, _, _ => none
 | g + 1, w, t, ms => if t.over = true then some (w, t, ms) else (opF f w t).bind fun y => soloF f g y.1 y.2 (ms ++ [t.mark])
theorem soloF_len {f : Nat} : ∀ {g : Nat} {w w' : Wd} {t t' : Th} {ms ms' : List (Nat × Nat)}, soloF f g w t ms = some (w', t', ms') → ms.length ≤ ms'.length := by
 intro g
 induction g with
 | zero => intro w w' t t' ms ms' h; cases h
 | succ g ih =>
  intro w w' t t' ms ms' h
  unfold soloF at h
  split at h
  ·cases h; exact Nat.le_refl _
  ·cases ho : opF f w t with
   | none => rw [ho] at h; cases h
   | some y =>
    rw [ho, Option.bind_some] at h
    have := ih h
    simp at this; omega
theorem solo_rounds {f : Nat} : ∀ {g : Nat} {w w' : Wd} {t t' : Th} {ms ms' : List (Nat × Nat)}, soloF f g w t ms = some (w', t', ms') → ms'.length ≤ 16384 →
  rounds f g ⟨w, [t], ms.map fun m => (0, m)⟩ = some ⟨w', [t'], ms'.map fun m => (0, m)⟩ := by
 intro g
 induction g with
 | zero => intro w w' t t' ms ms' h; cases h
 | succ g ih =>
  intro w w' t t' ms ms' h hl
  unfold soloF at h
  unfold rounds
  split at h
  ·rename_i ho
   cases h
   have : round f ([t] : List Th).length 0 ⟨w, [t], ms.map fun m => (0, m)⟩ false = some (⟨w, [t], ms.map fun m => (0, m)⟩, false) := by
    show round f 1 0 _ _ = _
    unfold round
    rw [if_neg (by unfold may; simp [ho])]
    rfl
   dsimp only
   rw [this]; rfl
  ·rename_i ho
   rw [Bool.not_eq_true] at ho
   cases hop : opF f w t with
   | none => rw [hop] at h; cases h
   | some y =>
    rw [hop, Option.bind_some] at h
    have hlen := soloF_len h
    simp only [List.length_append, List.length_cons, List.length_nil] at hlen
    have : round f ([t] : List Th).length 0 ⟨w, [t], ms.map fun m => (0, m)⟩ false = some (⟨y.1, [y.2], (ms ++ [t.mark]).map fun m => (0, m)⟩, true) := by
     show round f 1 0 _ _ = _
     unfold round
     rw [if_pos (by unfold may; simp [ho]; omega)]
     unfold turn
     simp only [List.getElem?_cons_zero, hop, Option.map_some, Option.bind_some]
     simp [round]
    dsimp only
    rw [this]
    exact ih h hl
theorem play_solo {f g : Nat} {w w' : Wd} {cl : Cl} {t t' : Th} {ms : List (Nat × Nat)} (h0 : onF f { calls := [cl] } = some t) (h : soloF f g w t [] = some (w', t', ms)) (hl : ms.length ≤ 16384) : play f g w [] [[cl]] = some ⟨w', [t'], ms.map fun m => (0, m)⟩ := by
 unfold play begin_
 simp only [List.map_cons, List.map_nil, h0, Option.bind_some, begin_, Option.map_some, byOrder]
 exact solo_rounds (ms := []) h hl
theorem solo_op {f g : Nat} {w w1 : Wd} {t t1 : Th} {ms : List (Nat × Nat)} {r : Wd × Th × List (Nat × Nat)} (ho : t.over = false) (h : opF f w t = some (w1, t1)) (k : soloF f g w1 t1 (ms ++ [t.mark]) = some r) : soloF f (g + 1) w t ms = some r := by
 unfold soloF
 rw [if_neg (by rw [ho]; decide), h]
 exact k
theorem solo_end {f g : Nat} {w : Wd} {t : Th} {ms : List (Nat × Nat)} (ho : t.over = true) : soloF f (g + 1) w t ms = some (w, t, ms) := by
 unfold soloF
 rw [if_pos ho]
section
variable {cs : List Cl} {cl : Cl} {c p : Nat} {r : Nat → Nat} {pre : List (Bool × List Nat)} {said : List Nat} {x : In} {on a b cc d n vb vc v : Nat}
theorem st_set (hc : cs[c]? = some cl) (hp : pre.length = c) (h : cl.code[p]? = some ⟨6, on, a, b, cc, d, n⟩) (e : n % 18446744073709551616 = v) : Goes 1 (T cs c p r pre said) (T cs c (p + 1) (upd r a v) pre said) := by
 subst e; exact goes_set hc hp h
theorem st_sameT (hc : cs[c]? = some cl) (hp : pre.length = c) (h : cl.code[p]? = some ⟨19, on, a, b, cc, d, n⟩) (e : vb = vc) (hb : r a = vb) (hcc : r b = vc) : Goes 1 (T cs c p r pre said) (T cs c n r pre said) := goes_sameT hc hp h (by rw [hb, hcc, e])
theorem st_sameF (hc : cs[c]? = some cl) (hp : pre.length = c) (h : cl.code[p]? = some ⟨19, on, a, b, cc, d, n⟩) (e : ¬ vb = vc) (hb : r a = vb) (hcc : r b = vc) : Goes 1 (T cs c p r pre said) (T cs c (p + 1) r pre said) := goes_sameF hc hp h (by rw [hb, hcc]; exact e)
theorem st_tell (hc : cs[c]? = some cl) (hp : pre.length = c) (h : cl.code[p]? = some ⟨22, on, a, b, cc, d, n⟩) (hb : r a = vb) : Goes 1 (T cs c p r pre said) (T cs c (p + 1) r pre (said ++ [vb])) := by
 subst hb; exact goes_tell hc hp h
variable {f : Nat} {w : Wd} {l : List Nat} {q : Nat} {ws : List (List Nat)} {t' : Th}
structure Op (f : Nat) (w : Wd) (t : Th) (m : Nat × Nat) (w' : Wd) (t' : Th) : Prop where
 over : t.over = false
 on : opF f w t = some (w', t')
 mark : t.mark = m
theorem Op.of {w' : Wd} (hc : cs[c]? = some cl) (h : cl.code[p]? = some x) (hq : (r x.b + x.n) % 18446744073709551616 = q) (ho : opF f w (T cs c p r pre said) = some (w', t')) : Op f w (T cs c p r pre said) (x.op, q) w' t' := ⟨rfl, ho, mark_at hc h hq⟩
theorem opr_load (hc : cs[c]? = some cl) (h : cl.code[p]? = some ⟨1, on, a, b, cc, d, n⟩) (hw : w.words[on]? = some l) (hb : r b = vb) (hq : (vb + n) % 18446744073709551616 = q) (hv : l[q]? = some v) (ho : onF f (T cs c (p + 1) (upd r a v) pre said) = some t') :
  opF f w (T cs c p r pre said) = some (w, t') := by
 have hr : w.row on = l := by unfold Wd.row; rw [List.getD_eq_getElem?_getD, hw]; rfl
 have hg : l.getD q 0 = v := by rw [List.getD_eq_getElem?_getD, hv]; rfl
 subst hb
 have := opF_at (f := f) (t' := t') (pre := pre) (said := said) (r := r) hc h hr hq (List.getElem?_eq_some_iff.1 hv).1 (by show onF f (T cs c (p + 1) (upd r a (l.getD q 0)) pre said) = _; rw [hg]; exact ho)
 rw [this]
 have e : w.words.set on l = w.words := by
  apply List.ext_getElem?
  intro i
  rw [List.getElem?_set]
  split
  ·rename_i hi; subst hi; rw [if_pos (List.getElem?_eq_some_iff.1 hw).1, hw]
  ·rfl
 show some (({ w with words := w.words.set on l } : Wd), t') = _
 rw [e]
theorem op_load (hc : cs[c]? = some cl) (h : cl.code[p]? = some ⟨1, on, a, b, cc, d, n⟩) (hw : w.words[on]? = some l) (hb : r b = vb) (hq : (vb + n) % 18446744073709551616 = q) (hv : l[q]? = some v) (ho : onF f (T cs c (p + 1) (upd r a v) pre said) = some t') : Op f w (T cs c p r pre said) (1, q) (w) t' := Op.of hc h (by rw [← hb] at hq; exact hq) (opr_load hc h hw hb hq hv ho)
theorem opr_store (hc : cs[c]? = some cl) (h : cl.code[p]? = some ⟨2, on, a, b, cc, d, n⟩) (hw : w.words[on]? = some l) (hb : r b = vb) (hq : (vb + n) % 18446744073709551616 = q) (hv : r a = v) (hlt : q < l.length) (hws : w.words.set on (l.set q v) = ws) (ho : onF f (T cs c (p + 1) r pre said) = some t') :
  opF f w (T cs c p r pre said) = some (⟨ws, w.nl⟩, t') := by
 have hr : w.row on = l := by unfold Wd.row; rw [List.getD_eq_getElem?_getD, hw]; rfl
 subst hb; subst hv; subst hws
 exact opF_at (f := f) (t' := t') hc h hr hq hlt ho
theorem op_store (hc : cs[c]? = some cl) (h : cl.code[p]? = some ⟨2, on, a, b, cc, d, n⟩) (hw : w.words[on]? = some l) (hb : r b = vb) (hq : (vb + n) % 18446744073709551616 = q) (hv : r a = v) (hlt : q < l.length) (hws : w.words.set on (l.set q v) = ws) (ho : onF f (T cs c (p + 1) r pre said) = some t') : Op f w (T cs c p r pre said) (2, q) (⟨ws, w.nl⟩) t' := Op.of hc h (by rw [← hb] at hq; exact hq) (opr_store hc h hw hb hq hv hlt hws ho)
theorem opr_casT {vd : Nat} (hc : cs[c]? = some cl) (h : cl.code[p]? = some ⟨5, on, a, b, cc, d, n⟩) (hw : w.words[on]? = some l) (hb : r b = vb) (hq : (vb + n) % 18446744073709551616 = q) (hcc : r cc = v) (hd : r d = vd) (hv : l[q]? = some v) (hws : w.words.set on (l.set q vd) = ws) (ho : onF f (T cs c (p + 1) (upd r a 1) pre said) = some t') :
  opF f w (T cs c p r pre said) = some (⟨ws, w.nl⟩, t') := by
 have hr : w.row on = l := by unfold Wd.row; rw [List.getD_eq_getElem?_getD, hw]; rfl
 have hg : l.getD q 0 = v := by rw [List.getD_eq_getElem?_getD, hv]; rfl
 have hop : op1 ⟨5, on, a, b, cc, d, n⟩ l q r = (l.set q vd, upd r a 1) := by
  show (if l.getD q 0 = r cc then (l.set q (r d), upd r a 1) else (l, upd r a 0)) = _
  rw [if_pos (by rw [hg, hcc]), hd]
 subst hb; subst hws
 rw [opF_at (f := f) (t' := t') (pre := pre) (said := said) (r := r) hc h hr hq (List.getElem?_eq_some_iff.1 hv).1 (by rw [hop]; exact ho), hop]
theorem op_casT {vd : Nat} (hc : cs[c]? = some cl) (h : cl.code[p]? = some ⟨5, on, a, b, cc, d, n⟩) (hw : w.words[on]? = some l) (hb : r b = vb) (hq : (vb + n) % 18446744073709551616 = q) (hcc : r cc = v) (hd : r d = vd) (hv : l[q]? = some v) (hws : w.words.set on (l.set q vd) = ws) (ho : onF f (T cs c (p + 1) (upd r a 1) pre said) = some t') : Op f w (T cs c p r pre said) (5, q) (⟨ws, w.nl⟩) t' := Op.of hc h (by rw [← hb] at hq; exact hq) (opr_casT hc h hw hb hq hcc hd hv hws ho)
end
theorem solo_by {f g : Nat} {w w' : Wd} {t t1 : Th} {m : Nat × Nat} {ms : List (Nat × Nat)} {res : Wd × Th × List (Nat × Nat)} (h : Op f w t m w' t1) (k : soloF f g w' t1 (ms ++ [m]) = some res) : soloF f (g + 1) w t ms = some res :=
 solo_op h.over h.on (by rw [h.mark]; exact k)
def Comes (f g : Nat) (w : Wd) (cl : Cl) (w' : Wd) (said : List Nat) (ms : List (Nat × Nat)) : Prop := ∃ st t, play f g w [] [[cl]] = some st ∧ st.w = w' ∧ st.l = [t] ∧ t.ans = [(true, said)] ∧ st.tr = ms.map fun m => (0, m)
theorem comes_of {f g : Nat} {w w' : Wd} {cl : Cl} {said : List Nat} {ms : List (Nat × Nat)} {t : Th} (h0 : onF (f + 1) (T [cl] 0 0 (fun _ => 0) [] []) = some t) (h : soloF (f + 1) g w t [] = some (w', { Bt [cl] 1 [(true, said)] with over := true }, ms)) (hl : ms.length ≤ 16384) : Comes (f + 1) g w cl w' said ms :=
 ⟨_, _, play_solo (t := t) ((on_begin (cs := [cl]) (c := 0) (pre := []) rfl rfl).trans h0) h hl, rfl, rfl, rfl, rfl⟩
inductive Runs (f : Nat) : Wd → Th → List (Nat × Nat) → Wd → Th → Prop
 | nil {w : Wd} {t : Th} : Runs f w t [] w t
 | cons {w w1 w2 : Wd} {t t1 t2 : Th} {m : Nat × Nat} {ms : List (Nat × Nat)} : Op f w t m w1 t1 → Runs f w1 t1 ms w2 t2 → Runs f w t (m :: ms) w2 t2
theorem Runs.solo {f : Nat} {w w' : Wd} {t t' : Th} {ms : List (Nat × Nat)} (a : Runs f w t ms w' t') (ho : t'.over = true) : ∀ ms0, soloF f (ms.length + 1) w t ms0 = some (w', t', ms0 ++ ms) := by
 induction a with
 | nil => intro ms0; rw [List.append_nil]; exact solo_end ho
 | cons h _ ih =>
  intro ms0
  refine solo_by h ?_
  refine (ih ho _).trans ?_
  rw [List.append_assoc]; rfl
theorem comes_runs {f : Nat} {w w' : Wd} {cl : Cl} {said : List Nat} {ms : List (Nat × Nat)} {t : Th} (h0 : onF (f + 1) (T [cl] 0 0 (fun _ => 0) [] []) = some t) (h : Runs (f + 1) w t ms w' { Bt [cl] 1 [(true, said)] with over := true }) (hl : ms.length ≤ 16384) : Comes (f + 1) (ms.length + 1) w cl w' said ms :=
 comes_of h0 (h.solo rfl []) hl
end
section
variable {cs : List Cl} {c : Nat} {pre : List (Bool × List Nat)} {w : Wd} {t' : Th} {ws : List (List Nat)}
variable {st t0 t1 s : Nat}
def ogetCl (t0 t1 st : Nat) : Cl := ⟨[⟨1, 0, 0, 9, 0, 0, 0⟩, ⟨6, 0, 1, 0, 0, 0, 1⟩, ⟨19, 0, 0, 1, 0, 0, 0⟩, ⟨19, 0, 0, 9, 0, 0, 5⟩, ⟨18, 0, 0, 0, 0, 0, 10⟩, ⟨5, 0, 2, 9, 9, 1, 0⟩, ⟨19, 0, 2, 9, 0, 0, 0⟩, ⟨6, 0, 3, 0, 0, 0, st⟩, ⟨2, 0, 3, 9, 0, 0, 0⟩, ⟨18, 0, 0, 0, 0, 0, 10⟩, ⟨6, 0, 5, 0, 0, 0, t0⟩, ⟨22, 0, 5, 0, 0, 0, 0⟩, ⟨6, 0, 4, 0, 0, 0, t1⟩, ⟨22, 0, 4, 0, 0, 0, 0⟩], []⟩
theorem oget_on (hc : cs[c]? = some (ogetCl t0 t1 st)) (h0 : pre.length = c)  : onF 20 (T cs c 0 (fun _ => 0) pre []) = some (T cs c 0 (fun _ => 0) pre []) :=
 (on_stop hc h0 rfl rfl)
theorem oget_old (hc : cs[c]? = some (ogetCl t0 t1 st)) (h0 : pre.length = c) (hw : w.words[0]? = some [s])  (e1 : ¬ s = 1) (e2 : ¬ s = 0) (e3 : t0 % 18446744073709551616 = t0) (e4 : t1 % 18446744073709551616 = t1) (ho : onF 10 (Bt cs (c + 1) (pre ++ [(true, [t0, t1])])) = some t') : Op 30 w (T cs c 0 (fun _ => 0) pre []) (1, 0) w t' :=
 op_load (vb := 0) hc rfl hw rfl rfl rfl (Goes.on1 (st_set hc h0 rfl rfl) (Goes.on1 (st_sameF (vb := s) (vc := 1) hc h0 rfl e1 rfl rfl) (Goes.on1 (st_sameF (vb := s) (vc := 0) hc h0 rfl e2 rfl rfl) (Goes.on1 (goes_jump hc h0 rfl) (Goes.on1 (st_set hc h0 rfl e3) (Goes.on1 (st_tell (vb := t0) hc h0 rfl rfl) (Goes.on1 (st_set hc h0 rfl e4) (Goes.on1 (st_tell (vb := t1) hc h0 rfl rfl) (Goes.on1 (goes_end hc h0 rfl) (onF_more (k := 11) ho))))))))))
theorem oget_0 (hc : cs[c]? = some (ogetCl t0 t1 st)) (h0 : pre.length = c) (hw : w.words[0]? = some [0])   : Op 30 w (T cs c 0 (fun _ => 0) pre []) (1, 0) w (T cs c 5 (upd (upd (fun _ => 0) 0 0) 1 1) pre []) :=
 op_load (vb := 0) hc rfl hw rfl rfl rfl (Goes.on1 (st_set hc h0 rfl rfl) (Goes.on1 (st_sameF (vb := 0) (vc := 1) hc h0 rfl (by decide) rfl rfl) (Goes.on1 (st_sameT (vb := 0) (vc := 0) hc h0 rfl rfl rfl rfl) (on_stop hc h0 rfl rfl))))
theorem oget_5 (hc : cs[c]? = some (ogetCl t0 t1 st)) (h0 : pre.length = c) (hw : w.words[0]? = some [0]) (hws : w.words.set 0 ([0].set 0 1) = ws) (e1 : st % 18446744073709551616 = st) : Op 30 w (T cs c 5 (upd (upd (fun _ => 0) 0 0) 1 1) pre []) (5, 0) ⟨ws, w.nl⟩ (T cs c 8 (upd (upd (upd (upd (fun _ => 0) 0 0) 1 1) 2 1) 3 st) pre []) :=
 op_casT (vb := 0) (vd := 1) hc rfl hw rfl rfl rfl rfl rfl hws (Goes.on1 (st_sameF (vb := 1) (vc := 0) hc h0 rfl (by decide) rfl rfl) (Goes.on1 (st_set hc h0 rfl e1) (on_stop hc h0 rfl rfl)))
theorem oget_8 (hc : cs[c]? = some (ogetCl t0 t1 st)) (h0 : pre.length = c) (hw : w.words[0]? = some [1]) (hws : w.words.set 0 ([1].set 0 st) = ws) (e1 : t0 % 18446744073709551616 = t0) (e2 : t1 % 18446744073709551616 = t1) (ho : onF 10 (Bt cs (c + 1) (pre ++ [(true, [t0, t1])])) = some t') : Op 30 w (T cs c 8 (upd (upd (upd (upd (fun _ => 0) 0 0) 1 1) 2 1) 3 st) pre []) (2, 0) ⟨ws, w.nl⟩ t' :=
 op_store (vb := 0) (v := st) hc rfl hw rfl rfl rfl (Nat.lt_succ_self 0) hws (Goes.on1 (goes_jump hc h0 rfl) (Goes.on1 (st_set hc h0 rfl e1) (Goes.on1 (st_tell (vb := t0) hc h0 rfl rfl) (Goes.on1 (st_set hc h0 rfl e2) (Goes.on1 (st_tell (vb := t1) hc h0 rfl rfl) (Goes.on1 (goes_end hc h0 rfl) (onF_more (k := 14) ho)))))))
theorem oget_new (h0 : t0 < 18446744073709551616) (h1 : t1 < 18446744073709551616) (h2 : st < 18446744073709551616) : Comes 30 (([(1, 0), (5, 0), (2, 0)] : List (Nat × Nat)).length + 1) ⟨[[0]], 1⟩ (ogetCl t0 t1 st) ⟨[[st]], 1⟩ [t0, t1] [(1, 0), (5, 0), (2, 0)] :=
 comes_runs (onF_more (k := 10) (oget_on (cs := [ogetCl t0 t1 st]) (c := 0) (pre := []) rfl rfl))
  (.cons (oget_0 rfl rfl rfl) (.cons (oget_5 rfl rfl rfl rfl (Nat.mod_eq_of_lt h2)) (.cons (oget_8 rfl rfl rfl rfl (Nat.mod_eq_of_lt h0) (Nat.mod_eq_of_lt h1) (on_over (f := 9) rfl)) .nil))) (by simp)
theorem oget_late (h0 : t0 < 18446744073709551616) (h1 : t1 < 18446744073709551616) (h2 : 1 < s) : Comes 30 (([(1, 0)] : List (Nat × Nat)).length + 1) ⟨[[s]], 1⟩ (ogetCl t0 t1 st) ⟨[[s]], 1⟩ [t0, t1] [(1, 0)] :=
 comes_runs (onF_more (k := 10) (oget_on (cs := [ogetCl t0 t1 st]) (c := 0) (pre := []) rfl rfl))
  (.cons (oget_old rfl rfl rfl (by omega) (by omega) (Nat.mod_eq_of_lt h0) (Nat.mod_eq_of_lt h1) (on_over (f := 9) rfl)) .nil) (by simp)
end
end Go.PB.Mach
namespace Go.Proofs
open Go.PB
section
instance : Siz Try.prog 3 1 := ⟨by kernel_rfl⟩
instance : Byt Try.prog 3 8 := ⟨by kernel_rfl⟩
instance : Zer Try.prog 3 (.int .i64 (0)) := ⟨by kernel_rfl⟩
instance : Scal Try.prog 3 := ⟨by kernel_rfl⟩
instance : InT Try.prog 3 .i64 := ⟨by kernel_rfl⟩
instance : Und Try.prog 3 (.int .i64) := ⟨by kernel_rfl⟩
instance : Siz Try.prog 4 1 := ⟨by kernel_rfl⟩
instance : Scal Try.prog 4 := ⟨by kernel_rfl⟩
instance : Scal Try.prog 21 := ⟨by kernel_rfl⟩
instance : Siz Try.prog 22 1 := ⟨by kernel_rfl⟩
instance : Byt Try.prog 22 8 := ⟨by kernel_rfl⟩
instance : Zer Try.prog 22 (.int .u64 (0)) := ⟨by kernel_rfl⟩
instance : Scal Try.prog 22 := ⟨by kernel_rfl⟩
instance : InT Try.prog 22 .u64 := ⟨by kernel_rfl⟩
instance : Und Try.prog 22 (.int .u64) := ⟨by kernel_rfl⟩
instance : Siz Try.prog 24 3 := ⟨by kernel_rfl⟩
instance : AggT Try.prog 24 := ⟨by kernel_rfl⟩
instance : Fld Try.prog 24 0 0 3 1 := ⟨by kernel_rfl⟩
instance : Fld Try.prog 24 1 1 22 1 := ⟨by kernel_rfl⟩
instance : Fld Try.prog 24 2 2 3 1 := ⟨by kernel_rfl⟩
instance : PtT Try.prog 25 68 := ⟨by kernel_rfl⟩
instance : Siz Try.prog 26 1 := ⟨by kernel_rfl⟩
instance : Scal Try.prog 26 := ⟨by kernel_rfl⟩
instance : Und Try.prog 26 (.int .i64) := ⟨by kernel_rfl⟩
instance : Scal Try.prog 29 := ⟨by kernel_rfl⟩
instance : Und Try.prog 29 (.func #[3] #[3, 26] false) := ⟨by kernel_rfl⟩
instance : PtT Try.prog 30 106 := ⟨by kernel_rfl⟩
instance : Scal Try.prog 34 := ⟨by kernel_rfl⟩
instance : Und Try.prog 34 (.func #[] #[22, 26] false) := ⟨by kernel_rfl⟩
instance : Siz Try.prog 35 1 := ⟨by kernel_rfl⟩
instance : Scal Try.prog 35 := ⟨by kernel_rfl⟩
instance : SlT Try.prog 35 44 := ⟨by kernel_rfl⟩
instance : Siz Try.prog 36 1 := ⟨by kernel_rfl⟩
instance : Scal Try.prog 36 := ⟨by kernel_rfl⟩
instance : SlT Try.prog 36 202 := ⟨by kernel_rfl⟩
instance : Siz Try.prog 38 2 := ⟨by kernel_rfl⟩
instance : Zer Try.prog 38 (.agg #[(.slice none 0 0), (.slice none 0 0)]) := ⟨by kernel_rfl⟩
instance : AggT Try.prog 38 := ⟨by kernel_rfl⟩
instance : StT Try.prog 38 #[(0, 1), (1, 1)] #[(.slice none 0 0), (.slice none 0 0)] := ⟨by kernel_rfl, by kernel_rfl⟩
instance : Fld Try.prog 38 0 0 35 1 := ⟨by kernel_rfl⟩
instance : Fld Try.prog 38 1 1 36 1 := ⟨by kernel_rfl⟩
instance : Met Try.prog 41 "Step" 156 := ⟨by kernel_rfl, by kernel_rfl⟩
instance : NoIfc Try.prog 41 := ⟨by kernel_rfl⟩
instance : PtT Try.prog 41 109 := ⟨by kernel_rfl⟩
instance : Siz Try.prog 44 1 := ⟨by kernel_rfl⟩
instance : Byt Try.prog 44 24 := ⟨by kernel_rfl⟩
instance : Zer Try.prog 44 (.slice none 0 0) := ⟨by kernel_rfl⟩
instance : Scal Try.prog 44 := ⟨by kernel_rfl⟩
instance : SlT Try.prog 44 22 := ⟨by kernel_rfl⟩
instance : Siz Try.prog 45 1 := ⟨by kernel_rfl⟩
instance : Scal Try.prog 45 := ⟨by kernel_rfl⟩
instance : SlT Try.prog 45 119 := ⟨by kernel_rfl⟩
instance : Scal Try.prog 48 := ⟨by kernel_rfl⟩
instance : SlT Try.prog 48 126 := ⟨by kernel_rfl⟩
instance : Siz Try.prog 50 2 := ⟨by kernel_rfl⟩
instance : Zer Try.prog 50 (.agg #[(.slice none 0 0), (.slice none 0 0)]) := ⟨by kernel_rfl⟩
instance : AggT Try.prog 50 := ⟨by kernel_rfl⟩
instance : StT Try.prog 50 #[(0, 1), (1, 1)] #[(.slice none 0 0), (.slice none 0 0)] := ⟨by kernel_rfl, by kernel_rfl⟩
instance : Fld Try.prog 50 0 0 48 1 := ⟨by kernel_rfl⟩
instance : Fld Try.prog 50 1 1 44 1 := ⟨by kernel_rfl⟩
instance : PtT Try.prog 58 64 := ⟨by kernel_rfl⟩
instance : Siz Try.prog 62 1 := ⟨by kernel_rfl⟩
instance : Byt Try.prog 62 8 := ⟨by kernel_rfl⟩
instance : Zer Try.prog 62 (.pointer none) := ⟨by kernel_rfl⟩
instance : Scal Try.prog 62 := ⟨by kernel_rfl⟩
instance : PtT Try.prog 62 145 := ⟨by kernel_rfl⟩
instance : StT Try.prog 64 #[(0, 1)] #[(.pointer none)] := ⟨by kernel_rfl, by kernel_rfl⟩
instance : Fld Try.prog 64 0 0 62 1 := ⟨by kernel_rfl⟩
instance : Siz Try.prog 66 1 := ⟨by kernel_rfl⟩
instance : Scal Try.prog 66 := ⟨by kernel_rfl⟩
instance : SlT Try.prog 66 62 := ⟨by kernel_rfl⟩
instance : StT Try.prog 68 #[(0, 1)] #[(.slice none 0 0)] := ⟨by kernel_rfl, by kernel_rfl⟩
instance : Fld Try.prog 68 0 0 66 1 := ⟨by kernel_rfl⟩
instance : Siz Try.prog 69 1 := ⟨by kernel_rfl⟩
instance : Scal Try.prog 69 := ⟨by kernel_rfl⟩
instance : SlT Try.prog 69 3 := ⟨by kernel_rfl⟩
instance : Byt Try.prog 84 0 := ⟨by kernel_rfl⟩
instance : Und Try.prog 94 (.interface #[("Step", 199)]) := ⟨by kernel_rfl⟩
instance : Scal Try.prog 102 := ⟨by kernel_rfl⟩
instance : Und Try.prog 102 (.func #[] #[3, 26] false) := ⟨by kernel_rfl⟩
instance : Scal Try.prog 103 := ⟨by kernel_rfl⟩
instance : PtT Try.prog 103 143 := ⟨by kernel_rfl⟩
instance : StT Try.prog 106 #[(0, 1)] #[(.pointer none)] := ⟨by kernel_rfl, by kernel_rfl⟩
instance : Fld Try.prog 106 0 0 103 1 := ⟨by kernel_rfl⟩
instance : StT Try.prog 109 #[(0, 1), (1, 1)] #[(.bool false), (.slice none 0 0)] := ⟨by kernel_rfl, by kernel_rfl⟩
instance : Fld Try.prog 109 0 0 4 1 := ⟨by kernel_rfl⟩
instance : Fld Try.prog 109 1 1 45 1 := ⟨by kernel_rfl⟩
instance : Siz Try.prog 110 1 := ⟨by kernel_rfl⟩
instance : Scal Try.prog 110 := ⟨by kernel_rfl⟩
instance : SlT Try.prog 110 121 := ⟨by kernel_rfl⟩
instance : Siz Try.prog 112 2 := ⟨by kernel_rfl⟩
instance : Zer Try.prog 112 (.agg #[(.slice none 0 0), (.slice none 0 0)]) := ⟨by kernel_rfl⟩
instance : AggT Try.prog 112 := ⟨by kernel_rfl⟩
instance : Fld Try.prog 112 0 0 110 1 := ⟨by kernel_rfl⟩
instance : Fld Try.prog 112 1 1 69 1 := ⟨by kernel_rfl⟩
instance : SlT Try.prog 113 124 := ⟨by kernel_rfl⟩
instance : Siz Try.prog 116 1 := ⟨by kernel_rfl⟩
instance : Zer Try.prog 116 (.slice none 0 0) := ⟨by kernel_rfl⟩
instance : Scal Try.prog 116 := ⟨by kernel_rfl⟩
instance : SlT Try.prog 116 50 := ⟨by kernel_rfl⟩
instance : Siz Try.prog 119 2 := ⟨by kernel_rfl⟩
instance : Byt Try.prog 119 16 := ⟨by kernel_rfl⟩
instance : Zer Try.prog 119 (.agg #[(.int .u8 (0)), (.int .i64 (0))]) := ⟨by kernel_rfl⟩
instance : AggT Try.prog 119 := ⟨by kernel_rfl⟩
instance : StT Try.prog 119 #[(0, 1), (1, 1)] #[(.int .u8 (0)), (.int .i64 (0))] := ⟨by kernel_rfl, by kernel_rfl⟩
instance : Siz Try.prog 121 3 := ⟨by kernel_rfl⟩
instance : Byt Try.prog 121 24 := ⟨by kernel_rfl⟩
instance : Zer Try.prog 121 (.agg #[(.int .i64 (0)), (.int .u8 (0)), (.int .i64 (0))]) := ⟨by kernel_rfl⟩
instance : StT Try.prog 121 #[(0, 1), (1, 2)] #[(.int .i64 (0)), (.int .u8 (0)), (.int .i64 (0))] := ⟨by kernel_rfl, by kernel_rfl⟩
instance : Fld Try.prog 121 1 1 119 2 := ⟨by kernel_rfl⟩
instance : Siz Try.prog 123 2 := ⟨by kernel_rfl⟩
instance : Byt Try.prog 123 32 := ⟨by kernel_rfl⟩
instance : Zer Try.prog 123 (.agg #[(.bool false), (.slice none 0 0)]) := ⟨by kernel_rfl⟩
instance : StT Try.prog 123 #[(0, 1), (1, 1)] #[(.bool false), (.slice none 0 0)] := ⟨by kernel_rfl, by kernel_rfl⟩
instance : Fld Try.prog 123 0 0 4 1 := ⟨by kernel_rfl⟩
instance : Fld Try.prog 123 1 1 44 1 := ⟨by kernel_rfl⟩
instance : Siz Try.prog 124 1 := ⟨by kernel_rfl⟩
instance : Byt Try.prog 124 24 := ⟨by kernel_rfl⟩
instance : Zer Try.prog 124 (.slice none 0 0) := ⟨by kernel_rfl⟩
instance : Scal Try.prog 124 := ⟨by kernel_rfl⟩
instance : SlT Try.prog 124 123 := ⟨by kernel_rfl⟩
instance : Siz Try.prog 126 7 := ⟨by kernel_rfl⟩
instance : Zer Try.prog 126 (.agg #[(.int .i64 (0)), (.int .i64 (0)), (.int .i64 (0)), (.int .i64 (0)), (.int .i64 (0)), (.int .i64 (0)), (.int .u64 (0))]) := ⟨by kernel_rfl⟩
instance : AggT Try.prog 126 := ⟨by kernel_rfl⟩
instance : StT Try.prog 126 #[(0, 1), (1, 1), (2, 1), (3, 1), (4, 1), (5, 1), (6, 1)] #[(.int .i64 (0)), (.int .i64 (0)), (.int .i64 (0)), (.int .i64 (0)), (.int .i64 (0)), (.int .i64 (0)), (.int .u64 (0))] := ⟨by kernel_rfl, by kernel_rfl⟩
instance : Fld Try.prog 126 0 0 3 1 := ⟨by kernel_rfl⟩
instance : Fld Try.prog 126 1 1 3 1 := ⟨by kernel_rfl⟩
instance : Fld Try.prog 126 2 2 3 1 := ⟨by kernel_rfl⟩
instance : Fld Try.prog 126 3 3 3 1 := ⟨by kernel_rfl⟩
instance : Fld Try.prog 126 4 4 3 1 := ⟨by kernel_rfl⟩
instance : Fld Try.prog 126 5 5 3 1 := ⟨by kernel_rfl⟩
instance : Fld Try.prog 126 6 6 22 1 := ⟨by kernel_rfl⟩
instance : Fld Try.prog 130 2 0 22 1 := ⟨by kernel_rfl⟩
instance : Fld Try.prog 134 1 0 132 1 := ⟨by kernel_rfl⟩
instance : Siz Try.prog 136 2 := ⟨by kernel_rfl⟩
instance : Fld Try.prog 136 0 0 21 1 := ⟨by kernel_rfl⟩
instance : Fld Try.prog 138 1 0 136 2 := ⟨by kernel_rfl⟩
instance : Fld Try.prog 140 1 0 134 1 := ⟨by kernel_rfl⟩
instance : Fld Try.prog 140 2 1 138 2 := ⟨by kernel_rfl⟩
instance : Scal Try.prog 141 := ⟨by kernel_rfl⟩
instance : Und Try.prog 141 (.chan .both 84) := ⟨by kernel_rfl⟩
instance : StT Try.prog 143 #[(0, 1), (1, 1), (2, 1), (3, 1), (4, 3), (7, 1), (8, 1), (9, 1)] #[(.int .i64 (0)), .nilFunc, (.int .u64 (0)), (.int .u64 (0)), (.int .u32 (0)), (.int .i32 (0)), (.int .u32 (0)), (.chan none), (.int .u64 (0)), (.int .i64 (0))] := ⟨by kernel_rfl, by kernel_rfl⟩
instance : Fld Try.prog 143 0 0 3 1 := ⟨by kernel_rfl⟩
instance : Fld Try.prog 143 1 1 34 1 := ⟨by kernel_rfl⟩
instance : Fld Try.prog 143 2 2 130 1 := ⟨by kernel_rfl⟩
instance : Fld Try.prog 143 3 3 130 1 := ⟨by kernel_rfl⟩
instance : Fld Try.prog 143 5 7 141 1 := ⟨by kernel_rfl⟩
instance : Fld Try.prog 143 6 8 22 1 := ⟨by kernel_rfl⟩
instance : Fld Try.prog 143 7 9 26 1 := ⟨by kernel_rfl⟩
instance : StT Try.prog 145 #[(0, 1), (1, 1), (2, 1), (3, 1), (4, 3), (7, 1), (8, 1), (9, 1)] #[(.int .i64 (0)), .nilFunc, (.int .u64 (0)), (.int .u64 (0)), (.int .u32 (0)), (.int .i32 (0)), (.int .u32 (0)), (.chan none), (.int .i64 (0)), (.int .i64 (0))] := ⟨by kernel_rfl, by kernel_rfl⟩
instance : Fld Try.prog 145 0 0 3 1 := ⟨by kernel_rfl⟩
instance : Fld Try.prog 145 1 1 102 1 := ⟨by kernel_rfl⟩
instance : Fld Try.prog 145 2 2 130 1 := ⟨by kernel_rfl⟩
instance : Fld Try.prog 145 3 3 130 1 := ⟨by kernel_rfl⟩
instance : Fld Try.prog 145 4 4 140 3 := ⟨by kernel_rfl⟩
instance : Fld Try.prog 145 5 7 141 1 := ⟨by kernel_rfl⟩
instance : Fld Try.prog 145 6 8 3 1 := ⟨by kernel_rfl⟩
instance : Fld Try.prog 145 7 9 26 1 := ⟨by kernel_rfl⟩
instance : SlT Try.prog 167 116 := ⟨by kernel_rfl⟩
instance : SlT Try.prog 169 170 := ⟨by kernel_rfl⟩
instance : Siz Try.prog 170 1 := ⟨by kernel_rfl⟩
instance : Byt Try.prog 170 8 := ⟨by kernel_rfl⟩
instance : Zer Try.prog 170 (.pointer none) := ⟨by kernel_rfl⟩
instance : Scal Try.prog 170 := ⟨by kernel_rfl⟩
instance : Siz Try.prog 171 24 := ⟨by kernel_rfl⟩
instance : Zer Try.prog 171 (.agg #[(.int .u64 (0)), (.int .u64 (0)), (.int .u64 (0)), (.int .u64 (0)), (.int .u64 (0)), (.int .u64 (0)), (.int .u64 (0)), (.int .u64 (0)), (.int .u64 (0)), (.int .u64 (0)), (.int .u64 (0)), (.int .u64 (0)), (.int .u64 (0)), (.int .u64 (0)), (.int .u64 (0)), (.int .u64 (0)), (.int .u64 (0)), (.int .u64 (0)), (.int .u64 (0)), (.int .u64 (0)), (.int .u64 (0)), (.int .u64 (0)), (.int .u64 (0)), (.int .u64 (0))]) := ⟨by kernel_rfl⟩
instance : ArT Try.prog 171 24 22 := ⟨by kernel_rfl⟩
instance : StT Try.prog 173 #[(0, 1), (1, 1), (2, 1), (3, 24), (27, 1), (28, 1)] #[(.slice none 0 0), (.int .i64 (0)), (.int .i64 (0)), (.int .u64 (0)), (.int .u64 (0)), (.int .u64 (0)), (.int .u64 (0)), (.int .u64 (0)), (.int .u64 (0)), (.int .u64 (0)), (.int .u64 (0)), (.int .u64 (0)), (.int .u64 (0)), (.int .u64 (0)), (.int .u64 (0)), (.int .u64 (0)), (.int .u64 (0)), (.int .u64 (0)), (.int .u64 (0)), (.int .u64 (0)), (.int .u64 (0)), (.int .u64 (0)), (.int .u64 (0)), (.int .u64 (0)), (.int .u64 (0)), (.int .u64 (0)), (.int .u64 (0)), (.slice none 0 0), (.bool false)] := ⟨by kernel_rfl, by kernel_rfl⟩
instance : Fld Try.prog 173 0 0 116 1 := ⟨by kernel_rfl⟩
instance : Fld Try.prog 173 1 1 3 1 := ⟨by kernel_rfl⟩
instance : Fld Try.prog 173 2 2 3 1 := ⟨by kernel_rfl⟩
instance : Fld Try.prog 173 3 3 171 24 := ⟨by kernel_rfl⟩
instance : Fld Try.prog 173 4 27 124 1 := ⟨by kernel_rfl⟩
instance : Fld Try.prog 173 5 28 4 1 := ⟨by kernel_rfl⟩
instance : Und Try.prog 186 .unsafePointer := ⟨by kernel_rfl⟩
instance : Siz Try.prog 202 1 := ⟨by kernel_rfl⟩
instance : Byt Try.prog 202 24 := ⟨by kernel_rfl⟩
instance : Zer Try.prog 202 (.slice none 0 0) := ⟨by kernel_rfl⟩
instance : Scal Try.prog 202 := ⟨by kernel_rfl⟩
instance : SlT Try.prog 202 220 := ⟨by kernel_rfl⟩
instance : Siz Try.prog 220 2 := ⟨by kernel_rfl⟩
instance : Byt Try.prog 220 16 := ⟨by kernel_rfl⟩
instance : Zer Try.prog 220 (.agg #[(.int .u64 (0)), (.int .u64 (0))]) := ⟨by kernel_rfl⟩
instance : PtT Try.prog 221 136 := ⟨by kernel_rfl⟩
instance : Ent' Try.prog 6 := ⟨⟨Try.f6, Try.func6, by kernel_rfl, by kernel_rfl⟩⟩
instance : Ent' Try.prog 8 := ⟨⟨Try.f8, Try.func8, by kernel_rfl, by kernel_rfl⟩⟩
instance : Ent' Try.prog 9 := ⟨⟨Try.f9, Try.func9, by kernel_rfl, by kernel_rfl⟩⟩
instance : Ent' Try.prog 10 := ⟨⟨Try.f10, Try.func10, by kernel_rfl, by kernel_rfl⟩⟩
instance : Ent' Try.prog 11 := ⟨⟨Try.f11, Try.func11, by kernel_rfl, by kernel_rfl⟩⟩
instance : Ent' Try.prog 12 := ⟨⟨Try.f12, Try.func12, by kernel_rfl, by kernel_rfl⟩⟩
instance : Ent' Try.prog 13 := ⟨⟨Try.f13, Try.func13, by kernel_rfl, by kernel_rfl⟩⟩
instance : Ent' Try.prog 14 := ⟨⟨Try.f14, Try.func14, by kernel_rfl, by kernel_rfl⟩⟩
instance : Ent' Try.prog 15 := ⟨⟨Try.f15, Try.func15, by kernel_rfl, by kernel_rfl⟩⟩
instance : Ent' Try.prog 16 := ⟨⟨Try.f16, Try.func16, by kernel_rfl, by kernel_rfl⟩⟩
instance : Ent' Try.prog 17 := ⟨⟨Try.f17, Try.func17, by kernel_rfl, by kernel_rfl⟩⟩
instance : Ent' Try.prog 18 := ⟨⟨Try.f18, Try.func18, by kernel_rfl, by kernel_rfl⟩⟩
instance : Ent' Try.prog 19 := ⟨⟨Try.f19, Try.func19, by kernel_rfl, by kernel_rfl⟩⟩
instance : Ent' Try.prog 20 := ⟨⟨Try.f20, Try.func20, by kernel_rfl, by kernel_rfl⟩⟩
instance : Ent' Try.prog 21 := ⟨⟨Try.f21, Try.func21, by kernel_rfl, by kernel_rfl⟩⟩
instance : Ent' Try.prog 22 := ⟨⟨Try.f22, Try.func22, by kernel_rfl, by kernel_rfl⟩⟩
instance : Ent' Try.prog 23 := ⟨⟨Try.f23, Try.func23, by kernel_rfl, by kernel_rfl⟩⟩
instance : Ent' Try.prog 24 := ⟨⟨Try.f24, Try.func24, by kernel_rfl, by kernel_rfl⟩⟩
instance : Ent' Try.prog 41 := ⟨⟨Try.f41, Try.func41, by kernel_rfl, by kernel_rfl⟩⟩
instance : Ent' Try.prog 45 := ⟨⟨Try.f45, Try.func45, by kernel_rfl, by kernel_rfl⟩⟩
instance : Ent' Try.prog 47 := ⟨⟨Try.f47, Try.func47, by kernel_rfl, by kernel_rfl⟩⟩
instance : Ent' Try.prog 48 := ⟨⟨Try.f48, Try.func48, by kernel_rfl, by kernel_rfl⟩⟩
instance : Ent' Try.prog 49 := ⟨⟨Try.f49, Try.func49, by kernel_rfl, by kernel_rfl⟩⟩
instance : Ent' Try.prog 50 := ⟨⟨Try.f50, Try.func50, by kernel_rfl, by kernel_rfl⟩⟩
instance : Ent' Try.prog 51 := ⟨⟨Try.f51, Try.func51, by kernel_rfl, by kernel_rfl⟩⟩
instance : Ent' Try.prog 52 := ⟨⟨Try.f52, Try.func52, by kernel_rfl, by kernel_rfl⟩⟩
instance : Ent' Try.prog 53 := ⟨⟨Try.f53, Try.func53, by kernel_rfl, by kernel_rfl⟩⟩
instance : Ent' Try.prog 54 := ⟨⟨Try.f54, Try.func54, by kernel_rfl, by kernel_rfl⟩⟩
instance : Ent' Try.prog 55 := ⟨⟨Try.f55, Try.func55, by kernel_rfl, by kernel_rfl⟩⟩
instance : Ent' Try.prog 56 := ⟨⟨Try.f56, Try.func56, by kernel_rfl, by kernel_rfl⟩⟩
instance : Ent' Try.prog 67 := ⟨⟨Try.f67, Try.func67, by kernel_rfl, by kernel_rfl⟩⟩
instance : Ent' Try.prog 68 := ⟨⟨Try.f68, Try.func68, by kernel_rfl, by kernel_rfl⟩⟩
instance : Ent' Try.prog 69 := ⟨⟨Try.f69, Try.func69, by kernel_rfl, by kernel_rfl⟩⟩
instance : Ent' Try.prog 71 := ⟨⟨Try.f71, Try.func71, by kernel_rfl, by kernel_rfl⟩⟩
instance : Ent' Try.prog 72 := ⟨⟨Try.f72, Try.func72, by kernel_rfl, by kernel_rfl⟩⟩
instance : Ent' Try.prog 73 := ⟨⟨Try.f73, Try.func73, by kernel_rfl, by kernel_rfl⟩⟩
instance : Ent' Try.prog 74 := ⟨⟨Try.f74, Try.func74, by kernel_rfl, by kernel_rfl⟩⟩
instance : Exn Try.prog 75 (Extern.Atomic.loadT (.int .u64)) := ⟨⟨Try.f75, Try.func75, by kernel_rfl, by kernel_rfl, by kernel_rfl, by kernel_rfl⟩⟩
instance : Ent' Try.prog 76 := ⟨⟨Try.f76, Try.func76, by kernel_rfl, by kernel_rfl⟩⟩
instance : Ent' Try.prog 77 := ⟨⟨Try.f77, Try.func77, by kernel_rfl, by kernel_rfl⟩⟩
instance : Ent' Try.prog 78 := ⟨⟨Try.f78, Try.func78, by kernel_rfl, by kernel_rfl⟩⟩
instance : Exn Try.prog 84 (Extern.Race.marked .releaseMerge) := ⟨⟨Try.f84, Try.func84, by kernel_rfl, by kernel_rfl, by kernel_rfl, by kernel_rfl⟩⟩
instance : Exn Try.prog 85 (fun _ => (do mark .disable; pure Extern.Race.none_ : Sem Value)) := ⟨⟨Try.f85, Try.func85, by kernel_rfl, by kernel_rfl, by kernel_rfl, by kernel_rfl⟩⟩
instance : Exn Try.prog 86 (fun _ => (do mark .enable; pure Extern.Race.none_ : Sem Value)) := ⟨⟨Try.f86, Try.func86, by kernel_rfl, by kernel_rfl, by kernel_rfl, by kernel_rfl⟩⟩
instance : Ent' Try.prog 91 := ⟨⟨Try.f91, Try.func91, by kernel_rfl, by kernel_rfl⟩⟩
instance : Ent' Try.prog 93 := ⟨⟨Try.f93, Try.func93, by kernel_rfl, by kernel_rfl⟩⟩
instance : Exn Try.prog 96 (Extern.Race.marked .acquire) := ⟨⟨Try.f96, Try.func96, by kernel_rfl, by kernel_rfl, by kernel_rfl, by kernel_rfl⟩⟩
instance : Ent' Try.prog 98 := ⟨⟨Try.f98, Try.func98, by kernel_rfl, by kernel_rfl⟩⟩
instance : Ent' Try.prog 101 := ⟨⟨Try.f101, Try.func101, by kernel_rfl, by kernel_rfl⟩⟩
instance : Ent' Try.prog 102 := ⟨⟨Try.f102, Try.func102, by kernel_rfl, by kernel_rfl⟩⟩
instance : Ent' Try.prog 103 := ⟨⟨Try.f103, Try.func103, by kernel_rfl, by kernel_rfl⟩⟩
instance : Ent' Try.prog 104 := ⟨⟨Try.f104, Try.func104, by kernel_rfl, by kernel_rfl⟩⟩
instance : Ent' Try.prog 105 := ⟨⟨Try.f105, Try.func105, by kernel_rfl, by kernel_rfl⟩⟩
instance : Ent' Try.prog 106 := ⟨⟨Try.f106, Try.func106, by kernel_rfl, by kernel_rfl⟩⟩
instance : Ent' Try.prog 107 := ⟨⟨Try.f107, Try.func107, by kernel_rfl, by kernel_rfl⟩⟩
instance : Ent' Try.prog 108 := ⟨⟨Try.f108, Try.func108, by kernel_rfl, by kernel_rfl⟩⟩
instance : Ent' Try.prog 109 := ⟨⟨Try.f109, Try.func109, by kernel_rfl, by kernel_rfl⟩⟩
instance : Exn Try.prog 113 (Extern.Atomic.update (Op.intArith .add) .u64 true) := ⟨⟨Try.f113, Try.func113, by kernel_rfl, by kernel_rfl, by kernel_rfl, by kernel_rfl⟩⟩
instance : Exn Try.prog 114 (Extern.Atomic.storeT) := ⟨⟨Try.f114, Try.func114, by kernel_rfl, by kernel_rfl, by kernel_rfl, by kernel_rfl⟩⟩
instance : Exn Try.prog 115 (Extern.Atomic.casT (.int .u64)) := ⟨⟨Try.f115, Try.func115, by kernel_rfl, by kernel_rfl, by kernel_rfl, by kernel_rfl⟩⟩
instance : Exn Try.prog 116 (Extern.Atomic.loadT (.int .u32)) := ⟨⟨Try.f116, Try.func116, by kernel_rfl, by kernel_rfl, by kernel_rfl, by kernel_rfl⟩⟩
instance : Ent' Try.prog 117 := ⟨⟨Try.f117, Try.func117, by kernel_rfl, by kernel_rfl⟩⟩
instance : Ent' Try.prog 118 := ⟨⟨Try.f118, Try.func118, by kernel_rfl, by kernel_rfl⟩⟩
instance : Ent' Try.prog 119 := ⟨⟨Try.f119, Try.func119, by kernel_rfl, by kernel_rfl⟩⟩
instance : Ent' Try.prog 120 := ⟨⟨Try.f120, Try.func120, by kernel_rfl, by kernel_rfl⟩⟩
instance : Ent' Try.prog 121 := ⟨⟨Try.f121, Try.func121, by kernel_rfl, by kernel_rfl⟩⟩
instance : Ent' Try.prog 122 := ⟨⟨Try.f122, Try.func122, by kernel_rfl, by kernel_rfl⟩⟩
instance : Ent' Try.prog 124 := ⟨⟨Try.f124, Try.func124, by kernel_rfl, by kernel_rfl⟩⟩
instance : Ent' Try.prog 125 := ⟨⟨Try.f125, Try.func125, by kernel_rfl, by kernel_rfl⟩⟩
instance : Exn Try.prog 126 (Extern.Atomic.storeT) := ⟨⟨Try.f126, Try.func126, by kernel_rfl, by kernel_rfl, by kernel_rfl, by kernel_rfl⟩⟩
instance : Ent' Try.prog 127 := ⟨⟨Try.f127, Try.func127, by kernel_rfl, by kernel_rfl⟩⟩
instance : Exn Try.prog 129 (Extern.Atomic.casT (.int .i32)) := ⟨⟨Try.f129, Try.func129, by kernel_rfl, by kernel_rfl, by kernel_rfl, by kernel_rfl⟩⟩
instance : Exn Try.prog 131 (Extern.Atomic.update (Op.intArith .add) .i32 true) := ⟨⟨Try.f131, Try.func131, by kernel_rfl, by kernel_rfl, by kernel_rfl, by kernel_rfl⟩⟩
instance : Ent' Try.prog 156 := ⟨⟨Try.f156, Try.func156, by kernel_rfl, by kernel_rfl⟩⟩
end
end Go.Proofs
namespace Go.Proofs.Ytcladnioicackaa
open Go Go.PB
attribute [local irreducible] Mo Bin Eql Tr Wo
section
variable {B : Hand} [Lets B] {L : List HProp} {x : B.X}
theorem tmod_emod {n k : Int} (hk : 0 < k) : (n.tmod k < 0 → n.tmod k + k = n % k) ∧ (¬ n.tmod k < 0 → n.tmod k = n % k) := by
 have h1 := Int.emod_nonneg n (by omega : k ≠ 0)
 have h2 := Int.emod_lt_of_pos n hk
 have h3 : n.tmod k = n % k - ((if 0 ≤ n ∨ k ∣ n then 0 else k.natAbs : Nat) : Int) := Int.tmod_eq_emod
 have h4 := Int.tmod_lt_of_pos n hk
 split at h3
 ·constructor <;> intro h5 <;> omega
 ·rename_i hn
  have h6 : n % k ≠ 0 := fun h => hn (.inr (Int.dvd_of_emod_eq_zero h))
  constructor <;> intro h5 <;> omega
theorem within_tr {n k : Int} (hn : -9223372036854775808 ≤ n ∧ n ≤ 9223372036854775807) (hk : 0 < k ∧ k ≤ 1000000) :
  Tr Try.prog B 13 [.int .i64 n, .int .i64 k] L x fun v L' x' => v = .int .i64 (n % k) ∧ L' = L ∧ x' = x := by
 have ht := tmod_emod (n := n) hk.1
 have h1 := Int.emod_nonneg n (by omega : k ≠ 0)
 have h2 := Int.emod_lt_of_pos n hk.1
 have hlt := Int.tmod_lt_of_pos n hk.1
 obtain ⟨m, hm⟩ : ∃ m, n % k = m := ⟨_, rfl⟩
 obtain ⟨t, hte⟩ : ∃ t, n.tmod k = t := ⟨_, rfl⟩
 rw [hm] at ht h1 h2
 rw [hte] at ht hlt
 rw [hm]
 by_cases hneg : t < 0
 ·have e := ht.1 hneg
  refine tr_of_body Try.func13 rfl Try.ntmps13 (by simp) fun um Q _ hQ => ?_
  simp only [argE, Nat.zero_add, Nat.reduceAdd]
  repeat (first | (apply wo_po; apply mo_bin; exact rfl; exact rfl; apply bin_rem; omega; exact hte; exact trivial) | refine wlssT ?_ | refine we_seq ?_ | (refine wR ?_; try simp only [oS]) | refine wo_nil ?_ | refine wM ?_ | refine wA ?_ | refine wadd ?_ | refine wT ?_ | refine we_ret ?_)
  (first | refine or1 Try.func13 Try.results13 hQ rfl ?_ | refine on1 Try.func13 Try.results13 hQ rfl ?_)
  exact ⟨by rw [e], rfl, rfl⟩
 ·have e := ht.2 hneg
  refine tr_of_body Try.func13 rfl Try.ntmps13 (by simp) fun um Q _ hQ => ?_
  simp only [argE, Nat.zero_add, Nat.reduceAdd]
  repeat (first | (apply wo_po; apply mo_bin; exact rfl; exact rfl; apply bin_rem; omega; exact hte; exact trivial) | refine wlssF ?_ | refine we_seq ?_ | (refine wR ?_; try simp only [oS]) | refine wo_nil ?_ | refine wM ?_ | refine wA ?_ | refine wF ?_ | refine we_ret ?_ | refine we_skip ?_)
  (first | refine or1 Try.func13 Try.results13 hQ rfl ?_ | refine on1 Try.func13 Try.results13 hQ rfl ?_)
  exact ⟨by rw [e], rfl, rfl⟩
def sameInv (x : B.X) (L : List HProp) (a a' : Option Addr) (n c c' : Nat) (l l' : List Nat) : Inv Nat B.X where
 e := fun i => [(0, .slice a n c), (1, .slice a' n c'), (5, .int .i64 i)]
 L := fun _ => L
 x := fun _ => x
 ok := fun i => i ≤ n ∧ l.take i = l'.take i
theorem same_words_tr {a a' : Option Addr} {n n' c c' : Nat} {l l' : List Nat} (hn : n = l.length) (hn' : n' = l'.length) (hl : n < 1000000000000000) (h1 : RdV L a l) (h2 : RdV L a' l') :
  Tr Try.prog B 18 [.slice a n c, .slice a' n' c'] L x fun v L' x' => v = .bool (decide (l = l')) ∧ L' = L ∧ x' = x := by
 by_cases hlen : n = n'
 ·subst hlen
  refine tr_of_body Try.func18 rfl Try.ntmps18 (by simp) fun um Q _ hQ => ?_
  simp only [argE, Nat.zero_add, Nat.reduceAdd]
  repeat (first | refine wneqF ?_ | refine we_seq ?_ | (refine wR ?_; try simp only [oS]) | refine wo_nil ?_ | refine wM ?_ | refine wA ?_ | refine wE ?_ | refine wF ?_ | refine we_skip ?_ | refine we_block ?_)
  refine we_loopN (sameInv x L a a' n c c' l l') (fun i => n - i) 0 ⟨by omega, by simp⟩ ⟨rfl, rfl, rfl, trivial⟩ .refl rfl ?_
  rintro i ⟨hi, ht⟩
  dsimp only [sameInv] at hi ht ⊢
  by_cases hc : i < n
  ·obtain ⟨v, hv⟩ : ∃ v, l[i]? = some v := ⟨l[i]'(by omega), by simp⟩
   obtain ⟨v', hv'⟩ : ∃ v, l'[i]? = some v := ⟨l'[i]'(by omega), by simp⟩
   obtain ⟨b1, o1, rfl, r1⟩ := h1 i v hv
   obtain ⟨b2, o2, rfl, r2⟩ := h2 i v' hv'
   by_cases he : v = v'
   ·have he' : (v : Int) = v' := by omega
    repeat (first | refine wlssT ?_ | refine we_seq ?_ | (refine wR ?_; try simp only [oS]) | refine wo_nil ?_ | refine wM ?_ | refine wE ?_ | refine wT ?_ | refine we_skip ?_ | refine we_block ?_)
    refine we_draw [0, 1, 2, 3, 4, 5, 6, 7, 8] (by kernel_rfl) ?_
    repeat (first | (apply ap_pure; exact rfl; exact rfl; exact trivial; intro L; apply mo_indexAddr (r := o1 + i); exact rfl; exact rfl; omega; omega; omega) | (apply ap_pure; exact rfl; exact rfl; exact trivial; intro L; apply mo_indexAddr (r := o2 + i); exact rfl; exact rfl; omega; omega; omega) | (apply ap_read; exact rfl; exact rfl; exact trivial; apply mo_load; exact rfl; exact r1) | (apply ap_read; exact rfl; exact rfl; exact trivial; apply mo_load; exact rfl; exact r2) | (apply ap_pure; exact rfl; exact rfl; exact trivial; intro L; apply mo_bin; exact rfl; exact rfl; apply bin_neqF; omega) | refine aM ?_ | refine ap_end ?_)
    repeat (first | (refine wR ?_; try simp only [oS]) | refine wo_nil ?_ | refine wM ?_ | refine wA ?_ | refine wadd ?_ | refine wF ?_ | refine we_skip ?_)
    refine at_round (I := sameInv x L _ _ n c c' l l') (R := fun i' => n - i' < n - i) (i + 1) (by omega) ⟨by omega, ?_⟩ ⟨rfl, rfl, rfl, trivial⟩ .refl rfl
    rw [List.take_add_one, List.take_add_one, ht, hv, hv', he]
   ·have he' : ¬ (v : Int) = v' := by omega
    repeat (first | refine wlssT ?_ | refine we_seq ?_ | (refine wR ?_; try simp only [oS]) | refine wo_nil ?_ | refine wM ?_ | refine wE ?_ | refine wT ?_ | refine we_skip ?_ | refine we_block ?_)
    refine we_draw [0, 1, 2, 3, 4, 5, 6, 7, 8] (by kernel_rfl) ?_
    repeat (first | (apply ap_pure; exact rfl; exact rfl; exact trivial; intro L; apply mo_indexAddr (r := o1 + i); exact rfl; exact rfl; omega; omega; omega) | (apply ap_pure; exact rfl; exact rfl; exact trivial; intro L; apply mo_indexAddr (r := o2 + i); exact rfl; exact rfl; omega; omega; omega) | (apply ap_read; exact rfl; exact rfl; exact trivial; apply mo_load; exact rfl; exact r1) | (apply ap_read; exact rfl; exact rfl; exact trivial; apply mo_load; exact rfl; exact r2) | (apply ap_pure; exact rfl; exact rfl; exact trivial; intro L; apply mo_bin; exact rfl; exact rfl; apply bin_neqT; omega) | refine aM ?_ | refine ap_end ?_)
    repeat (first | refine we_seq ?_ | (refine wR ?_; try simp only [oS]) | refine wo_nil ?_ | refine wA ?_ | refine wT ?_ | refine we_ret ?_)
    (first | refine or1 Try.func18 Try.results18 hQ rfl ?_ | refine on1 Try.func18 Try.results18 hQ rfl ?_)
    have : l ≠ l' := fun h => he (by rw [h, hv'] at hv; cases hv; rfl)
    exact ⟨by rw [decide_eq_false this], rfl, rfl⟩
  ·repeat (first | refine wlssF ?_ | refine we_seq ?_ | (refine wR ?_; try simp only [oS]) | refine wo_nil ?_ | refine wM ?_ | refine wA ?_ | refine wE ?_ | refine wF ?_ | refine we_ret ?_ | refine we_exit ?_)
   (first | refine or1 Try.func18 Try.results18 hQ rfl ?_ | refine on1 Try.func18 Try.results18 hQ rfl ?_)
   have : l = l' := by
    rw [List.take_of_length_le (by omega), List.take_of_length_le (by omega)] at ht
    exact ht
   exact ⟨by rw [decide_eq_true this], rfl, rfl⟩
 ·have hne : ¬ (n : Int) = n' := by omega
  refine tr_of_body Try.func18 rfl Try.ntmps18 (by simp) fun um Q _ hQ => ?_
  simp only [argE, Nat.zero_add, Nat.reduceAdd]
  repeat (first | refine wneqT ?_ | refine we_seq ?_ | (refine wR ?_; try simp only [oS]) | refine wo_nil ?_ | refine wM ?_ | refine wA ?_ | refine wE ?_ | refine wT ?_ | refine we_ret ?_)
  (first | refine or1 Try.func18 Try.results18 hQ rfl ?_ | refine on1 Try.func18 Try.results18 hQ rfl ?_)
  have : l ≠ l' := fun h => hlen (by rw [hn, hn', h])
  exact ⟨by rw [decide_eq_false this], rfl, rfl⟩
end
end Go.Proofs.Ytcladnioicackaa
namespace Go.Proofs.Ytcladnioicackaa
open Go Go.PB
attribute [local irreducible] Mo Bin Eql Tr Wo Ap
section
variable {B : Hand} [Lets B] {L F : List HProp} {x : B.X}
theorem told_tr {n : Nat} (hn : n ≤ 30) : Tr Try.prog B 106 [.int .i64 n] L x fun v L' x' => v = .bool (Mach.told n) ∧ L' = L ∧ x' = x := by
 by_cases h1 : 1 ≤ n
 ·by_cases h2 : n ≤ 5
  ·refine tr_of_body Try.func106 rfl Try.ntmps106 (by simp) fun um Q _ hQ => ?_
   simp only [argE, Nat.zero_add, Nat.reduceAdd]
   repeat (first | refine wleqT ?_ | refine wgeqT ?_ | refine we_seq ?_ | (refine wR ?_; try simp only [oS]) | refine wo_nil ?_ | refine wM ?_ | refine wA ?_ | refine wK ?_ | refine we_ret ?_)
   (first | refine or1 Try.func106 Try.results106 hQ rfl ?_ | refine on1 Try.func106 Try.results106 hQ rfl ?_)
   exact ⟨by simp [Mach.told, h1, h2], rfl, rfl⟩
  ·refine tr_of_body Try.func106 rfl Try.ntmps106 (by simp) fun um Q _ hQ => ?_
   simp only [argE, Nat.zero_add, Nat.reduceAdd]
   repeat (first | refine wleqF ?_ | refine wgeqT ?_ | refine we_seq ?_ | (refine wR ?_; try simp only [oS]) | refine wo_nil ?_ | refine wM ?_ | refine wA ?_ | refine wK ?_ | refine we_ret ?_)
   (first | refine or1 Try.func106 Try.results106 hQ rfl ?_ | refine on1 Try.func106 Try.results106 hQ rfl ?_)
   exact ⟨by simp [Mach.told, h1, h2], rfl, rfl⟩
 ·refine tr_of_body Try.func106 rfl Try.ntmps106 (by simp) fun um Q _ hQ => ?_
  simp only [argE, Nat.zero_add, Nat.reduceAdd]
  repeat (first | refine wgeqF ?_ | refine we_seq ?_ | (refine wR ?_; try simp only [oS]) | refine wo_nil ?_ | refine wM ?_ | refine wA ?_ | (apply wo_no; exact rfl) | refine wJ ?_ | refine we_ret ?_)
  (first | refine or1 Try.func106 Try.results106 hQ rfl ?_ | refine on1 Try.func106 Try.results106 hQ rfl ?_)
  exact ⟨by simp [Mach.told, h1], rfl, rfl⟩
theorem kind_tr {n : Nat} (hn : 1 ≤ n ∧ n ≤ 5) : Tr Try.prog B 108 [.int .i64 n] L x fun v L' x' => v = .int .u8 n ∧ L' = L ∧ x' = x := by
 have : n = 1 ∨ n = 2 ∨ n = 3 ∨ n = 4 ∨ n = 5 := by omega
 rcases this with rfl | rfl | rfl | rfl | rfl
 ·refine tr_of_body Try.func108 rfl Try.ntmps108 (by simp) fun um Q _ hQ => ?_
  simp only [argE, Nat.zero_add, Nat.reduceAdd]
  repeat (first | refine weqlT ?_ | refine we_seq ?_ | (refine wR ?_; try simp only [oS]) | refine wo_nil ?_ | refine wM ?_ | refine wA ?_ | refine wT ?_ | refine we_ret ?_ | refine we_block ?_)
  (first | refine or1 Try.func108 Try.results108 hQ rfl ?_ | refine on1 Try.func108 Try.results108 hQ rfl ?_)
  exact ⟨rfl, rfl, rfl⟩
 ·refine tr_of_body Try.func108 rfl Try.ntmps108 (by simp) fun um Q _ hQ => ?_
  simp only [argE, Nat.zero_add, Nat.reduceAdd]
  repeat (first | refine weqlT ?_ | refine weqlF ?_ | refine we_seq ?_ | (refine wR ?_; try simp only [oS]) | refine wo_nil ?_ | refine wM ?_ | refine wA ?_ | refine wT ?_ | refine wF ?_ | refine we_ret ?_ | refine we_block ?_)
  (first | refine or1 Try.func108 Try.results108 hQ rfl ?_ | refine on1 Try.func108 Try.results108 hQ rfl ?_)
  exact ⟨rfl, rfl, rfl⟩
 ·refine tr_of_body Try.func108 rfl Try.ntmps108 (by simp) fun um Q _ hQ => ?_
  simp only [argE, Nat.zero_add, Nat.reduceAdd]
  repeat (first | refine weqlT ?_ | refine weqlF ?_ | refine we_seq ?_ | (refine wR ?_; try simp only [oS]) | refine wo_nil ?_ | refine wM ?_ | refine wA ?_ | refine wT ?_ | refine wF ?_ | refine we_ret ?_ | refine we_block ?_)
  (first | refine or1 Try.func108 Try.results108 hQ rfl ?_ | refine on1 Try.func108 Try.results108 hQ rfl ?_)
  exact ⟨rfl, rfl, rfl⟩
 ·refine tr_of_body Try.func108 rfl Try.ntmps108 (by simp) fun um Q _ hQ => ?_
  simp only [argE, Nat.zero_add, Nat.reduceAdd]
  repeat (first | refine weqlT ?_ | refine weqlF ?_ | refine we_seq ?_ | (refine wR ?_; try simp only [oS]) | refine wo_nil ?_ | refine wM ?_ | refine wA ?_ | refine wT ?_ | refine wF ?_ | refine we_ret ?_ | refine we_block ?_)
  (first | refine or1 Try.func108 Try.results108 hQ rfl ?_ | refine on1 Try.func108 Try.results108 hQ rfl ?_)
  exact ⟨rfl, rfl, rfl⟩
 ·refine tr_of_body Try.func108 rfl Try.ntmps108 (by simp) fun um Q _ hQ => ?_
  simp only [argE, Nat.zero_add, Nat.reduceAdd]
  repeat (first | refine weqlF ?_ | refine we_seq ?_ | (refine wR ?_; try simp only [oS]) | refine wo_nil ?_ | refine wM ?_ | refine wA ?_ | refine wF ?_ | refine we_ret ?_ | refine we_skip ?_ | refine we_block ?_)
  (first | refine or1 Try.func108 Try.results108 hQ rfl ?_ | refine on1 Try.func108 Try.results108 hQ rfl ?_)
  exact ⟨rfl, rfl, rfl⟩
end
end Go.Proofs.Ytcladnioicackaa
namespace Go.PB
theorem wpS_partI {P : Program} {M : Mark → Prop} {α : Type} {t : TypeId} {k : IntKind} {cs : Array Value} {off : Nat} {v : Value} {kk : Value → Sem α} (ht : P.underlying t = some (.int k)) (hc : cs[off]? = some v) {h : Hp} {Q : α → Hp → Prop} {X : Value → Hp → Prop} (q : wpS P M (kk v) h Q X) :
  wpS P M (Sem.bind (part t cs off) kk) h Q X := by
 refine wpS_bind _ _ ?_
 unfold part
 refine wpS_isAgg (q := false) (by unfold aggOf; rw [ht]; rfl) ?_
 simp only [Bool.false_eq_true, if_false, hc]
 exact q
theorem wpS_equalI {P : Program} {M : Mark → Prop} {α : Type} {d : Nat} {t : TypeId} {k : IntKind} {a b : Int} {kk : Bool → Sem α} (ht : P.underlying t = some (.int k)) {h : Hp} {Q : α → Hp → Prop} {X : Value → Hp → Prop} (q : wpS P M (kk (a == b)) h Q X) :
  wpS P M (Sem.bind (Op.equalIn (d + 1) t (.int k a) (.int k b)) kk) h Q X := by
 refine wpS_bind _ _ ?_
 unfold Op.equalIn
 refine wpS_underlying ht ?_
 simp only [if_true]
 exact q
theorem equalIn_two {P : Program} {M : Mark → Prop} {d : Nat} {t : TypeId} {f0 f1 : Field} {k0 k1 : IntKind} {a0 b0 a1 b1 : Int} (ht : P.underlying t = some (.struct #[f0, f1])) (hs : P.stoodInHeld t = false)
  (n0 : f0.name ≠ "_") (n1 : f1.name ≠ "_") (o0 : f0.offset = 0) (o1 : f1.offset = 1) (t0 : P.underlying f0.type = some (.int k0)) (t1 : P.underlying f1.type = some (.int k1))
  {h : Hp} {Q : Bool → Hp → Prop} {X : Value → Hp → Prop} (q : Q (decide (a0 = b0 ∧ a1 = b1)) h) :
  wpS P M (Op.equalIn (d + 2) t (.agg #[.int k0 a0, .int k1 a1]) (.agg #[.int k0 b0, .int k1 b1])) h Q X := by
 unfold Op.equalIn
 refine wpS_underlying ht ?_
 dsimp only
 refine wpS_program (β := Unit) ?_
 simp only [hs, Bool.false_eq_true, if_false, ← Array.forIn_toList, List.forIn_cons, List.forIn_nil, n0, n1, ne_eq, not_false_eq_true, if_true, bind_assoc, pure_bind, o0, o1]
 refine wpS_partI t0 rfl (wpS_partI t0 rfl (wpS_equalI t0 ?_))
 by_cases e0 : a0 = b0
 ·subst e0
  simp only [beq_self_eq_true, Bool.not_true, Bool.false_eq_true, if_false, pure_bind, bind_assoc]
  refine wpS_partI t1 rfl (wpS_partI t1 rfl (wpS_equalI t1 ?_))
  by_cases e1 : a1 = b1
  ·subst e1
   simp only [beq_self_eq_true, Bool.not_true, Bool.false_eq_true, if_false, pure_bind, bind_assoc]
   have q' : Q true h := by simpa using q
   exact q'
  ·have : (a1 == b1) = false := by simp [e1]
   simp only [this, Bool.not_false, if_true, pure_bind, bind_assoc]
   have q' : Q false h := by simpa [e1] using q
   exact q'
 ·have : (a0 == b0) = false := by simp [e0]
  simp only [this, Bool.not_false, if_true, pure_bind, bind_assoc]
  have q' : Q false h := by simpa [e0] using q
  exact q'
theorem eql_two {P : Program} {t : TypeId} {f0 f1 : Field} {k0 k1 : IntKind} {a0 b0 a1 b1 : Int} {x y : Operand} [p : Und P t (.struct #[f0, f1])] (hs : P.stoodInHeld t = false) (hg : P.eqGuardType P.depth t = false)
  (n0 : f0.name ≠ "_") (n1 : f1.name ≠ "_") (o0 : f0.offset = 0) (o1 : f1.offset = 1) (t0 : P.underlying f0.type = some (.int k0)) (t1 : P.underlying f1.type = some (.int k1)) :
  Eql P t x y (.agg #[.int k0 a0, .int k1 a1]) (.agg #[.int k0 b0, .int k1 b1]) (decide (a0 = b0 ∧ a1 = b1)) := by
 have hgd : ∀ op M (h : Hp) (Q : Unit → Hp → Prop) X, op = .eql ∨ op = .neq → Q () h → wpS P M (eqGuard op t x y (.agg #[.int k0 a0, .int k1 a1]) (.agg #[.int k0 b0, .int k1 b1])) h Q X := by
  intro op M h Q X hop q
  unfold eqGuard
  rcases hop with rfl | rfl
  ·simp only [Bool.not_true, Bool.false_eq_true, if_false]
   refine wpS_program (β := Unit) (wpS_program (β := Unit) ?_)
   simp only [hg, Bool.not_false, if_true]
   exact q
  ·simp only [Bool.not_true, Bool.false_eq_true, if_false]
   refine wpS_program (β := Unit) (wpS_program (β := Unit) ?_)
   simp only [hg, Bool.not_false, if_true]
   exact q
 intro op hop M h Q X q
 show wpS P M (Sem.bind (Sem.bind (eqGuard op t x y _ _) fun _ => binOp op t _ _) fun v => pure (.value v)) h Q X
 refine wpS_bind _ _ (wpS_bind _ _ (hgd op M h _ _ hop ?_))
 rcases hop with rfl | rfl
 ·have h1 : binOp .eql t (.agg #[.int k0 a0, .int k1 a1]) (.agg #[.int k0 b0, .int k1 b1]) = (do pure (.bool (← Op.equal t (.agg #[.int k0 a0, .int k1 a1]) (.agg #[.int k0 b0, .int k1 b1]))) : Sem Value) := rfl
  rw [h1]
  show wpS P M (Sem.bind (Op.equal t (.agg #[.int k0 a0, .int k1 a1]) (.agg #[.int k0 b0, .int k1 b1])) fun r => pure (Value.bool r)) h _ X
  refine wpS_bind _ _ ?_
  rw [equal_def]
  refine equalIn_two p.ok hs n0 n1 o0 o1 t0 t1 ?_
  have q' : Q (.value (.bool (decide (a0 = b0 ∧ a1 = b1)))) h := by simpa using q
  exact q'
 ·have h1 : binOp .neq t (.agg #[.int k0 a0, .int k1 a1]) (.agg #[.int k0 b0, .int k1 b1]) = (do pure (.bool (!(← Op.equal t (.agg #[.int k0 a0, .int k1 a1]) (.agg #[.int k0 b0, .int k1 b1])))) : Sem Value) := rfl
  rw [h1]
  show wpS P M (Sem.bind (Op.equal t (.agg #[.int k0 a0, .int k1 a1]) (.agg #[.int k0 b0, .int k1 b1])) fun r => pure (Value.bool (!r))) h _ X
  refine wpS_bind _ _ ?_
  rw [equal_def]
  refine equalIn_two p.ok hs n0 n1 o0 o1 t0 t1 ?_
  have q' : Q (.value (.bool (!decide (a0 = b0 ∧ a1 = b1)))) h := by simpa using q
  exact q'
end Go.PB
namespace Go.PB
inductive ResV (P : Program) (e : Env) (L : List HProp) : ResultVar → Value → Prop
 | tmp {i : Nat} {v : Value} : lk e i = some v → ResV P e L (.tmp i) v
 | cell {a ty n b o : Nat} {vs : List Value} [p : AggT P ty] [sz : Siz P ty n] : lk e a = some (.pointer (some ⟨b, o, none⟩)) → n = vs.length → Rds L b o vs → ResV P e L (.cell a ty) (.agg vs.toArray)
 | cell1 {a ty b o : Nat} {v : Value} [p : Scal P ty] : lk e a = some (.pointer (some ⟨b, o, none⟩)) → Rd L b o v → ResV P e L (.cell a ty) v
inductive ResL (P : Program) (e : Env) (L : List HProp) : List ResultVar → List Value → Prop
 | nil : ResL P e L [] []
 | cons {r : ResultVar} {v : Value} {rs : List ResultVar} {vs : List Value} : ResV P e L r v → ResL P e L rs vs → ResL P e L (r :: rs) (v :: vs)
def packR : List Value → Value
 | [a] => a
 | vs => .tuple vs.toArray
def loadR (t : Array Value) : ResultVar → Sem Value
 | .tmp i => pure (t.getD i undef)
 | .cell a ty => do loadVar ty (← asAddr (t.getD a undef))
variable {P : Program} {B : Hand} {kd : CallKind} {n : Nat} {e : Env} {L : List HProp} {x : B.X}
theorem ResV.load {r : ResultVar} {v : Value} {t : Array Value} {M : Mark → Prop} {h : Hp} {Q : Value → Hp → Prop} {X : Value → Hp → Prop} (rv : ResV P e L r v) (ag : Agree e t) (s : Star L h) (q : Q v h) :
  wpS P M (loadR t r) h Q X := by
 cases rv with
 | @tmp i v hi =>
  have : t.getD i undef = v := ag.ev (o := .tmp i) hi
  show Q (t.getD i undef) h
  rw [this]; exact q
 | @cell a ty n b o vs p sz ha hn hr =>
  have : t.getD a undef = _ := ag.ev (o := .tmp a) ha
  show wpS P M (Sem.bind (asAddr (t.getD a undef)) fun y => loadVar ty y) h Q X
  rw [this]
  show wpS P M (loadVar ty ⟨b, o, none⟩) h Q X
  show wpS P M (Sem.bind (isAgg ty) _) h _ X
  refine wpS_isAgg p.ok ?_
  rw [if_pos rfl]
  show wpS P M (Sem.bind (sizeOf ty) fun n => Sem.bind (loadCells ⟨b, o, none⟩ n) fun x => pure (Value.agg x)) h _ X
  exact wpS_sizeOf sz.ok (wpS_bind _ _ (wpS_loadCells hn (fun j v hv => hr j v hv h s) q))
 | @cell1 a ty b o v p ha hr =>
  have : t.getD a undef = _ := ag.ev (o := .tmp a) ha
  show wpS P M (Sem.bind (asAddr (t.getD a undef)) fun y => loadVar ty y) h Q X
  rw [this]
  show wpS P M (loadVar ty ⟨b, o, none⟩) h Q X
  show wpS P M (Sem.bind (isAgg ty) _) h _ X
  refine wpS_isAgg p.ok ?_
  exact wpS_load (hr h s) q
theorem at_leaveM {f : FuncId} {fn : Func} {rs : List ResultVar} {vs : List Value} {um : FrameMode} {Q : PB.End → FrameMode → Hp → B.X → Prop} {R : Value → List HProp → B.X → Prop} {ex : Ex} (hf : P.funcs[f]? = some fn) (hr : fn.results = rs.toArray)
  (q : ∀ v L' x' h', R v L' x' → Star L' h' → Q (.ret v) um h' x') (hex : ex = .ret ∨ ex = .normal) (hv : ResL P e L rs vs) (hR : R (packR vs) L x) :
  At n e L fun t h => leave P B f kd Q ex t ⟨[], um⟩ h x := by
 intro t h a1 a2 a3
 have hw : Wd P B f kd .returning t ⟨[], um⟩ h x Q := by
  refine wd_ret (packR vs) hf rfl ?_ (q _ L x h hR a3)
  have key : ∀ {rs : List ResultVar} {vs : List Value}, ResL P e L rs vs → ∀ (acc : Array Value) (M : Mark → Prop) (Q : Array Value → Hp → Prop) (X : Value → Hp → Prop), Q (acc ++ vs.toArray) h →
    wpS P M (List.foldlM (fun (bs : Array Value) (r : ResultVar) => bs.push <$> loadR t r) acc rs) h Q X := by
   intro rs vs hv
   induction hv with
   | nil => exact fun acc M Q X hq => (show Q acc h from by simpa using hq)
   | @cons r v rs vs h1 _ ih =>
    intro acc M Q X hq
    rw [List.foldlM_cons, map_eq_pure_bind]
    refine wpS_bind _ _ (wpS_bind _ _ (h1.load a2 a3 ?_))
    show wpS P M (List.foldlM _ (acc.push v) rs) h Q X
    refine ih (acc.push v) M Q X ?_
    simpa using hq
  unfold results
  rw [hr, Array.mapM_eq_foldlM, ← Array.foldlM_toList]
  refine wpS_bind _ _ ?_
  have e1 : (fun (bs : Array Value) (r : ResultVar) => (bs.push <$> (match r with | .tmp i => pure (t.getD i undef) | .cell a ty => do loadVar ty (← asAddr (t.getD a undef)) : Sem Value) : Sem (Array Value))) = fun bs r => bs.push <$> loadR t r := by
   funext bs r; cases r <;> rfl
  show wpS P _ (List.foldlM (fun (bs : Array Value) (r : ResultVar) => (bs.push <$> (match r with | .tmp i => pure (t.getD i undef) | .cell a ty => do loadVar ty (← asAddr (t.getD a undef)) : Sem Value) : Sem (Array Value))) #[] rs) h _ _
  rw [e1]
  refine key hv #[] _ _ _ ?_
  rw [show (#[] ++ vs.toArray : Array Value) = vs.toArray by simp]
  refine ⟨?_, rfl⟩
  cases vs with
  | nil => rfl
  | cons a l => cases l <;> rfl
 rcases hex with rfl | rfl
 ·exact hw
 ·exact hw
end Go.PB
namespace Go.PB
section
variable {L F : List HProp}
theorem ent_eq {L L' : List HProp} (h : L = L') : Ent L L' := h ▸ .refl
theorem wt_vec {sz b o n c i : Nat} {cs : List Value} {v : Value} (hh : Has L (vec sz (.slice (some ⟨b, o, none⟩) n c) cs) F) (hi : i < cs.length) : Wt L b (o + i) v (vec sz (.slice (some ⟨b, o, none⟩) n c) (cs.set i v) :: F) := by
 intro h s
 rcases vec_out (hh.star s) with ⟨h1, _, _⟩ | ⟨b', o', n', c', sp, h1, h2, h3, h4, h5⟩
 ·cases h1
 ·cases h1
  obtain ⟨a1, a2⟩ := star_store (k := i) (v := v) (by simp; omega) h5
  refine ⟨a1, vec_in (sp := sp) (by simpa using h2) h3 h4 ?_⟩
  rwa [List.set_append_left _ _ hi] at a2
theorem has_get {M : List HProp} {c : HProp} : ∀ {i : Nat}, M[i]? = some c → Has M c (M.eraseIdx i) := by
 induction M with
 | nil => intro i h; cases h
 | cons d M ih =>
  intro i h
  cases i with
  | zero => cases h; exact .here
  | succ i => exact .there (ih h)
theorem has_app {M : List HProp} {c : HProp} {R : List HProp} (h : Has M c R) : Has (M ++ L) c (R ++ L) := by
 induction h with
 | here => exact .here
 | there _ ih => exact .there ih
theorem star_pick {M : List HProp} {c : HProp} {i : Nat} (e : M[i]? = some c) {h : Hp} (s : Star (all M :: L) h) : Star (c :: all (M.eraseIdx i) :: L) h :=
 star_map ((has_app (has_get e)).star (star_open s)) (fun _ x => x) (fun _ x => star_shut x)
theorem ent_put {M : List HProp} {c : HProp} : ∀ {i : Nat}, i < M.length → Has (M.set i c) c (M.eraseIdx i) := by
 intro i hi
 have := has_get (M := M.set i c) (c := c) (i := i) (by simp [hi])
 rwa [List.eraseIdx_set_eq] at this
theorem has_back {M R : List HProp} {c : HProp} (hh : Has M c R) {h : Hp} (s : Star (c :: R) h) : Star M h := by
 induction hh generalizing h with
 | here => exact s
 | there _ ih => exact star_map (star_swap s) (fun _ x => x) (fun _ => ih)
theorem star_put {M : List HProp} {c : HProp} {i : Nat} (hi : i < M.length) {h : Hp} (s : Star (c :: all (M.eraseIdx i) :: L) h) : Star (all (M.set i c) :: L) h :=
 star_shut (has_back (has_app (ent_put hi)) (star_map s (fun _ x => x) (fun _ x => star_open x)))
theorem star_push {M : List HProp} {c : HProp} {h : Hp} (s : Star (c :: all M :: L) h) : Star (all (M ++ [c]) :: L) h := by
 have s2 : Star (c :: (M ++ L)) h := star_map s (fun _ x => x) (fun _ x => star_open x)
 refine star_shut ?_
 have : Has (M ++ [c] ++ L) c (M ++ L) := by
  have h1 : Has (M ++ c :: L) c (M ++ L) := by
   clear s s2
   induction M with
   | nil => exact .here
   | cons d M ih => exact .there ih
  simpa using h1
 exact has_back this s2
theorem u64_add {a b : Nat} : IntKind.u64.wrap ((a : Int) + (b : Int)) = (((a + b) % 18446744073709551616 : Nat) : Int) := by rw [wrap_u64_mod]; omega
theorem u64_sub {a b : Nat} (hb : b < 18446744073709551616) : IntKind.u64.wrap ((a : Int) - (b : Int)) = (((a + 18446744073709551616 - b) % 18446744073709551616 : Nat) : Int) := by rw [wrap_u64_mod]; omega
theorem u64_mul {a b : Nat} : IntKind.u64.wrap ((a : Int) * (b : Int)) = (((a * b) % 18446744073709551616 : Nat) : Int) := by rw [wrap_u64_mod, ← Int.natCast_mul]; omega
theorem u64_quo {a b : Nat} : IntKind.u64.wrap ((a : Int).tdiv (b : Int)) = (((a / b) % 18446744073709551616 : Nat) : Int) := by rw [wrap_u64_mod, ← Int.ofNat_tdiv]; omega
theorem u64_shl {a n : Nat} (h : n < 64) : IntKind.u64.wrap ((a : Int) * 2 ^ (min (n : Int).toNat IntKind.u64.bits)) = (((a * 2 ^ n) % 18446744073709551616 : Nat) : Int) := by
 have : min (n : Int).toNat IntKind.u64.bits = n := by show min (n : Int).toNat 64 = n; omega
 rw [this, wrap_u64_mod, show (2 : Int) ^ n = ((2 ^ n : Nat) : Int) by simp, ← Int.natCast_mul]; omega
theorem u64_shr {a n : Nat} (h : n < 64) (ha : a < 18446744073709551616) : (a : Int).fdiv (2 ^ (min (n : Int).toNat IntKind.u64.bits)) = (((a / 2 ^ n) % 18446744073709551616 : Nat) : Int) := by
 have : min (n : Int).toNat IntKind.u64.bits = n := by show min (n : Int).toNat 64 = n; omega
 have h2 : a / 2 ^ n < 18446744073709551616 := Nat.lt_of_le_of_lt (Nat.div_le_self _ _) ha
 rw [this, show (2 : Int) ^ n = ((2 ^ n : Nat) : Int) by simp, Nat.mod_eq_of_lt h2, Int.fdiv_eq_ediv_of_nonneg _ (Int.natCast_nonneg _)]; rfl
theorem or_u64 {a b : Nat} (ha : a < 18446744073709551616) (hb : b < 18446744073709551616) : IntKind.u64.wrap (BitVec.ofInt IntKind.u64.bits (a : Int) ||| BitVec.ofInt IntKind.u64.bits (b : Int)).toNat = (((a ||| b) % 18446744073709551616 : Nat) : Int) := by
 have h1 : (BitVec.ofInt 64 (a : Int) ||| BitVec.ofInt 64 (b : Int)).toNat = a ||| b := by
  rw [BitVec.toNat_or, BitVec.ofInt_natCast, BitVec.ofInt_natCast, BitVec.toNat_ofNat, BitVec.toNat_ofNat, Nat.mod_eq_of_lt (by omega), Nat.mod_eq_of_lt (by omega)]
 show IntKind.u64.wrap ((BitVec.ofInt 64 (a : Int) ||| BitVec.ofInt 64 (b : Int)).toNat : Int) = _
 rw [h1, wrap_u64_mod]; omega
theorem and_u64' {a b : Nat} (ha : a < 18446744073709551616) (hb : b < 18446744073709551616) : IntKind.u64.wrap (BitVec.ofInt IntKind.u64.bits (a : Int) &&& BitVec.ofInt IntKind.u64.bits (b : Int)).toNat = (((a &&& b) % 18446744073709551616 : Nat) : Int) := by
 rw [and_u64 ha hb, Nat.mod_eq_of_lt (Nat.lt_of_le_of_lt Nat.and_le_left ha)]
end
section
variable {P : Program} {e : Env} {L : List HProp} {ty : TypeId}
theorem parts_pv {parts : Array (Nat × Operand)} {pv : List (Nat × Value)} {tt : Array Value} (hp : parts.toList.map (·.1) = pv.map (·.1)) (h2 : (parts.toList.map (·.2)).map (evT tt) = pv.map (·.2)) : (parts.map fun (i, x) => (i, evT tt x)) = pv.toArray := by
 apply Array.ext'
 simp only [Array.toList_map]
 have key : ∀ (l : List (Nat × Operand)) (r : List (Nat × Value)), l.map (·.1) = r.map (·.1) → (l.map (·.2)).map (evT tt) = r.map (·.2) → l.map (fun (q : Nat × Operand) => (q.1, evT tt q.2)) = r := by
  intro l
  induction l with
  | nil => intro r h1 _; cases r with | nil => rfl | cons _ _ => cases h1
  | cons a l ih =>
   intro r h1 h2
   cases r with
   | nil => cases h1
   | cons c r =>
    simp only [List.map_cons, List.cons.injEq] at h1 h2 ⊢
    exact ⟨by rw [h1.1, h2.1], ih r h1.2 h2.2⟩
 exact key _ _ hp h2
theorem mo_buildArr {t n el sz : Nat} {parts : Array (Nat × Operand)} {pv : List (Nat × Value)} {zv : Value} {cells : Array Value} [p : ArT P t n el] [s : Siz P el sz] [zr : Zer P t zv] (hp : parts.toList.map (·.1) = pv.map (·.1)) (hv : EvL e (parts.toList.map (·.2)) (pv.map (·.2))) (hf : Instr.fill (fun i => some (i * sz, sz)) zv.cells pv = some cells) : Mo P e (.build t parts) ty L fun v' L' => v' = .agg cells ∧ L' = L := by
 intro M _ _ tt h Q X ag st q
 show wpS P M (Sem.bind (Instr.build t (parts.map fun (i, x) => (i, evT tt x))) fun v => pure (.value v)) h Q X
 rw [parts_pv hp (hv.evT ag)]
 refine wpS_bind _ _ ?_
 show wpS P M (Sem.bind (zeroValue t) fun z0 => Sem.bind (underlying t) fun d => _) h _ X
 refine wpS_zeroValue zr.ok (wpS_underlying p.ok ?_)
 refine wpS_sizeOf s.ok ?_
 rw [hf]
 exact q (.agg cells) L h (.value (.agg cells)) (.inl rfl) ⟨rfl, rfl⟩ st
theorem mo_indexArr1 {t n el : Nat} {o i : Operand} {b c : Nat} {k : IntKind} {j : Nat} [p : ArT P t n el] [z : Siz P el 1] (hx : ev e o = some (.pointer (some ⟨b, c, none⟩))) (hi : ev e i = some (.int k (j : Nat))) (h1 : j < n) : Mo P e (.indexAddr t o i) ty L fun v' L' => v' = .pointer (some ⟨b, c + j, none⟩) ∧ L' = L :=
 mo_indexArr hx hi (by omega) (by omega) (by omega)
theorem mo_index1 {t el : Nat} {o i : Operand} {b c n cp : Nat} {k : IntKind} {j : Nat} [p : SlT P t el] [z : Siz P el 1] (hx : ev e o = some (.slice (some ⟨b, c, none⟩) n cp)) (hi : ev e i = some (.int k (j : Nat))) (h1 : j < n) : Mo P e (.indexAddr t o i) ty L fun v' L' => v' = .pointer (some ⟨b, c + j, none⟩) ∧ L' = L :=
 mo_indexAddr hx hi (by omega) (by omega) (by omega)
theorem mo_index2 {t el : Nat} {o i : Operand} {b c n cp : Nat} {k : IntKind} {j : Nat} [p : SlT P t el] [z : Siz P el 2] (hx : ev e o = some (.slice (some ⟨b, c, none⟩) n cp)) (hi : ev e i = some (.int k (j : Nat))) (h1 : j < n) : Mo P e (.indexAddr t o i) ty L fun v' L' => v' = .pointer (some ⟨b, c + 2 * j, none⟩) ∧ L' = L :=
 mo_indexAddr hx hi (by omega) (by omega) (by omega)
theorem mo_max {o o' : Operand} {tys : Array TypeId} {k : IntKind} {a b : Int} (hx : ev e o = some (.int k a)) (hy : ev e o' = some (.int k b)) : Mo P e (.call ⟨.builtin .max, #[o, o'], tys⟩) ty L fun v' L' => v' = .int k (max a b) ∧ L' = L := by
 intro M _ _ t h Q X ag s q
 show wpS P M (Sem.bind (Builtin.max_ tys ty (#[o, o'].map (evT t))) fun v => pure (.value v)) h Q X
 rw [show #[o, o'].map (evT t) = #[evT t o, evT t o'] by simp, ag.ev hx, ag.ev hy]
 refine q _ L h (.value (.int k (if b > a then b else a))) (.inl ?_) ⟨rfl, rfl⟩ s
 congr 2
 split <;> omega
end
theorem tr_and {P : Program} {B : Hand} {x : B.X} {L F : List HProp} {p : Prop} {c : HProp} {f : FuncId} {args : List Value} {R : Value → List HProp → B.X → Prop} (hh : Has L (fun h => p ∧ c h) F) (t : p → Tr P B f args (c :: F) x R) : Tr P B f args L x R :=
 fun h um Q hs q pn => by
  obtain ⟨hp, s⟩ := star_and (hh.star hs)
  exact t hp h um Q s q pn
theorem ap_callR {P : Program} {B : Hand} {kd : CallKind} {n : Nat} {ops : Array Oper} {ord R : List Nat} {Pd : List Pn} {K : Post B} {e : Env} {z : Z} {L : List HProp} {x : B.X} [Lets B] {i : Nat} {Pd' : List Pn} {d : Option Nat} {fo : Operand} {args : List Operand} {tys : Array TypeId} {ty : TypeId} {pos : String} {aft : Array Edge} {gd : Option (Nat × Bool)} {fv : Value} {f : FuncId} {first cap vs : List Value} {Q : Value → List HProp → B.X → Prop} (ho : nth ops.toList i = some ⟨d, .call ⟨.value fo, args.toArray, tys⟩, ty, pos, aft, gd⟩)
  (hdom : (R.all fun j => (anc ops ops.size j).contains i) = true) (hpd' : pdKeep ops i Pd = Pd') (hg : gYes (resE (readsOf n ops i) e) (guardOf n ops ⟨d, .call ⟨.value fo, args.toArray, tys⟩, ty, pos, aft, gd⟩))
  (hf : ev (resE (readsOf n ops i) e) fo = some fv) (hc : callee? fv = some (f, first, cap)) (hargs : EvL (resE (readsOf n ops i) e) args vs) [en : Ent' P f] [pk : Pass K z] (m : Tr P B f (first ++ vs ++ cap) L x Q)
  (hre : ∀ v L' x', Q v L' x' → ∀ p ∈ Pd', p.st = true ∨ ∃ o, nth ops.toList p.i = some o ∧ gYes p.e (guardOf n ops o) ∧ Mo P p.e o.op o.type L' (fun v' L1 => v' = p.v ∧ L1 = L'))
  (k : ∀ v L' x', Q v L' x' → Ap P B kd n ops ord R Pd' K (setE d v e) z L' x') : Ap P B kd n ops ord (i :: R) Pd K e z L x := by
 subst hpd'
 have ho := nth_at ho
 refine ap_loud_gen ho hdom hg fun idx t h ht ha s hw kk => ?_
 refine wr_op ho hw ?_
 have hfv : evT t fo = fv := ha.ev hf
 have hav := hargs.evT ha
 have hex : execOp (evT t) ⟨d, .call ⟨.value fo, args.toArray, tys⟩, ty, pos, aft, gd⟩ = callFunc f (first ++ vs ++ cap).toArray := by
  show (do let d ← resolve (evT t) ⟨.value fo, args.toArray, tys⟩ ty; invoke d.target d.args : Sem Next) = _
  cases fv with
  | func fn fi ca =>
   cases fn with
   | func g =>
    simp only [callee?, Option.some.injEq, Prod.mk.injEq] at hc
    obtain ⟨rfl, rfl, rfl⟩ := hc
    simp only [resolve, hfv, Deferred.ofValue, List.map_toArray, hav]
    show callFunc g ((fi ++ vs.toArray) ++ ca) = _
    congr 1
    apply Array.ext'
    simp
   | _ => cases hc
  | _ => cases hc
 rw [hex]
 refine wpS_callFunc en.ok ?_
 refine m h .run _ s (fun v L' x' h' r s' => ⟨rfl, ?_⟩) (fun ch h' x' hc => ⟨rfl, pk.ok ch t h' x' hc⟩)
 exact kk v L' x' h' s' (fun p hp hk => by
  by_cases hs : p.st = true
  ·exact pd_still (Pd' := [p]) (by simp [hs]) p (by simp) hk
  ·rcases hre v L' x' r p hp with h | ⟨o, h1, h2, h3⟩
   ·exact absurd h hs
   ·exact ⟨o, nth_at h1, .inl ⟨h2, by rw [if_neg hs]; exact h3⟩⟩) (k v L' x' r)
def seqTail : Nat → Code → Code
 | 0, c => c
 | n + 1, .seq _ b => seqTail n b
 | _ + 1, c => c
section
variable {P : Program} {B : Hand} {kd : CallKind} {n : Nat} {K : Post B} {e : Env} {z : Z} {L F : List HProp} {x : B.X}
def midK {ι : Type} (I : Inv ι B.X) (n : Nat) (z : Z) (K : Post B) : Post B
 | .normal, t, z', h, x => ∃ i, I.ok i ∧ z' = z ∧ t.size = n ∧ Agree (I.e i) t ∧ Star (I.L i) h ∧ I.x i = x
 | ex, t, z', h, x => K ex t z' h x
instance {ι : Type} {I : Inv ι B.X} {n : Nat} {z z' : Z} {K : Post B} [p : Pass K z'] : Pass (midK I n z K) z' := ⟨fun ch t h x q => p.ok ch t h x q⟩
theorem mid_out {ι : Type} (I : Inv ι B.X) {c : Code} (k : ∀ i, I.ok i → We P B kd n c K (I.e i) z (I.L i) (I.x i)) : ∀ ex t z' h x, midK I n z K ex t z' h x → thn P B kd c K ex t z' h x := by
 intro ex t z' h x hm
 cases ex with
 | normal => obtain ⟨i, h1, rfl, h3, h4, h5, rfl⟩ := hm; exact k i h1 t h h3 h4 h5
 | _ => exact hm
theorem we_join {ι : Type} (I : Inv ι B.X) {a c : Code} (w : We P B kd n a (midK I n z K) e z L x) (k : ∀ i, I.ok i → We P B kd n c K (I.e i) z (I.L i) (I.x i)) : We P B kd n a (thn P B kd c K) e z L x :=
 fun t h a1 a2 a3 => (w t h a1 a2 a3).mono (mid_out I k)
theorem we_join2 {ι : Type} (I : Inv ι B.X) {a b c : Code} (w : We P B kd n a (thn P B kd b (midK I n z K)) e z L x) (k : ∀ i, I.ok i → We P B kd n c K (I.e i) z (I.L i) (I.x i)) : We P B kd n a (thn P B kd b (thn P B kd c K)) e z L x :=
 fun t h a1 a2 a3 => (w t h a1 a2 a3).mono fun ex t z' h x hm => by
  cases ex with
  | normal => exact Wc.mono hm (mid_out I k)
  | _ => exact hm
theorem at_mid {ι : Type} {I : Inv ι B.X} (i : ι) (hok : I.ok i) (he : Sub (I.e i) e) (hL : Ent L (I.L i)) (hx : I.x i = x) : At n e L fun t h => ∃ i, I.ok i ∧ z = z ∧ t.size = n ∧ Agree (I.e i) t ∧ Star (I.L i) h ∧ I.x i = x :=
 fun t h a1 a2 a3 => ⟨i, hok, rfl, a1, fun j v hj => a2 j v (he.lk j v hj), hL.star a3, hx⟩
theorem at_midS {ι : Type} {I : Inv ι B.X} (i : ι) (hok : I.ok i) (he : Sub (I.e i) e) (hL : ∀ h, Star L h → Star (I.L i) h) (hx : I.x i = x) : At n e L fun t h => ∃ i, I.ok i ∧ z = z ∧ t.size = n ∧ Agree (I.e i) t ∧ Star (I.L i) h ∧ I.x i = x :=
 fun t h a1 a2 a3 => ⟨i, hok, rfl, a1, fun j v hj => a2 j v (he.lk j v hj), hL h a3, hx⟩
theorem at_roundS {ι : Type} {I : Inv ι B.X} {R : ι → Prop} (i' : ι) (hr : R i') (hok : I.ok i') (he : Sub (I.e i') e) (hL : ∀ h, Star L h → Star (I.L i') h) (hx : I.x i' = x) :
  At n e L fun t h => ∃ i', R i' ∧ I.ok i' ∧ z = z ∧ t.size = n ∧ Agree (I.e i') t ∧ Star (I.L i') h ∧ I.x i' = x :=
 fun t h a1 a2 a3 => ⟨i', hr, hok, rfl, a1, fun j v hj => a2 j v (he.lk j v hj), hL h a3, hx⟩
theorem we_ex {c : Code} {α : Type} {d : α → HProp} (hh : Has L (fun h => ∃ a, d a h) F) (a : ∀ y, We P B kd n c K e z (d y :: F) x) : We P B kd n c K e z L x := at_ex hh a
theorem we_and {c : Code} {p : Prop} {d : HProp} (hh : Has L (fun h => p ∧ d h) F) (a : p → We P B kd n c K e z (d :: F) x) : We P B kd n c K e z L x := at_and hh a
theorem we_open {c : Code} {M : List HProp} (hh : Has L (all M) F) (a : We P B kd n c K e z (M ++ F) x) : We P B kd n c K e z L x := at_open hh a
end
theorem flat_len {α : Type} {f : α → List Value} {k : Nat} (hf : ∀ a, (f a).length = k) : ∀ (l : List α), (l.map f).flatten.length = l.length * k := by
 intro l
 induction l with
 | nil => simp
 | cons a l ih => simp only [List.map_cons, List.flatten_cons, List.length_append, ih, hf, List.length_cons]; rw [Nat.add_mul]; omega
theorem flat_get {α : Type} {f : α → List Value} {k : Nat} (hf : ∀ a, (f a).length = k) : ∀ (l : List α) (i j : Nat) (a : α), l[i]? = some a → j < k → (l.map f).flatten[k * i + j]? = (f a)[j]? := by
 intro l
 induction l with
 | nil => intro i j a h; simp at h
 | cons b l ih =>
  intro i j a h hj
  simp only [List.map_cons, List.flatten_cons]
  cases i with
  | zero =>
   have e : b = a := by simpa using h
   subst e
   rw [Nat.mul_zero, Nat.zero_add, List.getElem?_append_left (by rw [hf]; exact hj)]
  | succ i =>
   rw [List.getElem?_append_right (by rw [hf, Nat.mul_add]; omega), hf, ← ih i j a (by simpa using h) hj]
   congr 1
   rw [Nat.mul_add]; omega
theorem flat_set {α : Type} {f : α → List Value} {k : Nat} (hf : ∀ a, (f a).length = k) {v : Value} : ∀ (l : List α) (i j : Nat) (a b : α), l[i]? = some a → j < k → f b = (f a).set j v → (l.map f).flatten.set (k * i + j) v = ((l.set i b).map f).flatten := by
 intro l
 induction l with
 | nil => intro i j a b h; simp at h
 | cons c l ih =>
  intro i j a b h hj hb
  cases i with
  | zero =>
   have e : c = a := by simpa using h
   subst e
   simp only [List.map_cons, List.flatten_cons, List.set_cons_zero, Nat.mul_zero, Nat.zero_add]
   rw [List.set_append_left _ _ (by rw [hf]; exact hj), hb]
  | succ i =>
   simp only [List.map_cons, List.flatten_cons, List.set_cons_succ]
   rw [List.set_append_right _ _ (by rw [hf, Nat.mul_add]; omega), hf, ← ih i j a b (by simpa using h) hj hb]
   congr 2
   rw [Nat.mul_add]; omega
end Go.PB
namespace Go.PB
section
variable {P : Program} {B : Hand} {kd : CallKind} {n : Nat} {ops : Array Oper} {ord R : List Nat} {Pd : List Pn} {K : Post B} {e : Env} {z : Z} {L : List HProp} {x : B.X}
variable (P B kd n) in
def Ap1 (ops : Array Oper) (ord : List Nat) (i : Nat) (R : List Nat) (Pd : List Pn) (K : Post B) (e : Env) (z : Z) (L : List HProp) (x : B.X) : Prop :=
 (∃ pre, ord = pre ++ i :: R ∧ ∀ p ∈ Pd, p.i ∈ pre) → OkO n ops ord → (∀ p ∈ Pd, PdOk P n ops L p) → ∀ idx t h, InvA n ops (i :: R) Pd e (i :: idx) t → Star L h → Wr P B kd ops (i :: idx) K t z h x
theorem ap_fork [Lets B] {i f : Nat} {ord' : List Nat} (hdom : (R.all fun j => j == f || (anc ops ops.size j).contains i) = true) (hf : R.contains f = true) (hord : ord' = (ord.takeWhile fun q => !(q == i)) ++ f :: i :: R.erase f) (hok : okOrd n ops ord' = true)
  (a : Ap1 P B kd n ops ord i R Pd K e z L x) (b : Ap1 P B kd n ops ord' f (i :: R.erase f) Pd K e z L x) : Ap P B kd n ops ord (i :: R) Pd K e z L x := by
 rintro ⟨pre, hpre, hin⟩ ok hpd
 have hfR : f ∈ R := by simpa using hf
 refine ap_run ok hpd (fun t h I s => ?_) (fun j idx t h hj I s => ?_)
 ·have := I.all i (by simp); simp at this
 ·have hnd : (pre ++ i :: R).Nodup := hpre ▸ ok.nd
  have htw : ord.takeWhile (fun q => !(q == i)) = pre := by rw [hpre]; exact takeWhile_pre hnd
  have hnd2 := List.nodup_cons.1 (List.nodup_append.1 hnd).2.1
  by_cases hji : j = i
  ·subst hji
   exact a ⟨pre, hpre, hin⟩ ok hpd idx t h I s
  ·have hjf : j = f := by
    rcases List.mem_cons.1 hj with h1 | h1
    ·exact absurd h1 hji
    ·have := (List.all_eq_true.1 hdom) j h1
     simp only [Bool.or_eq_true, beq_iff_eq, List.contains_eq_mem, decide_eq_true_eq] at this
     rcases this with h2 | h2
     ·exact h2
     ·exact absurd (I.all i (by simp)) (I.first ok h2)
   subst hjf
   have hmem : ∀ y, (y ∈ j :: i :: R.erase j) ↔ y ∈ i :: R := by
    intro y
    simp only [List.mem_cons, hnd2.2.mem_erase_iff]
    constructor
    ·rintro (rfl | rfl | ⟨_, h⟩)
     ·exact .inr hfR
     ·exact .inl rfl
     ·exact .inr h
    ·rintro (rfl | h)
     ·exact .inr (.inl rfl)
     ·by_cases e : y = j
      ·exact .inl e
      ·exact .inr (.inr ⟨e, h⟩)
   refine b ⟨pre, by rw [hord, htw], hin⟩ (okOrd_ok hok) hpd idx t h ⟨I.sz, I.nd, I.lt, fun q hq => ?_, fun q hq => I.all q ((hmem q).1 hq), fun p hp hh => I.dj p hp ((hmem _).1 hh), I.pu, I.resp, I.dn, I.envok, I.pok⟩ s
   rcases I.sub q hq with h1 | h1
   ·exact .inl ((hmem q).2 h1)
   ·exact .inr h1
theorem ap1_gen [Lets B] {i : Nat} {o : Oper} (ho : ops[i]? = some o) (hg : gYes (resE (readsOf n ops i) e) (guardOf n ops o))
  (w : ∀ idx t h, t.size = n → Agree (resE (readsOf n ops i) e) t → Star L h → Region.wanted o (yielded ops t) = true →
   (∀ v L' x' h', Star L' h' → (∀ p ∈ pdKeep ops i Pd, PdOk P n ops L p → PdOk P n ops L' p) → Ap P B kd n ops ord R (pdKeep ops i Pd) K (setE o.dst v e) z L' x' → Wr P B kd ops idx K (setDst o t v) z h' x') → Wr P B kd ops (i :: idx) K t z h x) : Ap1 P B kd n ops ord i R Pd K e z L x := by
 rintro ⟨pre, hpre, hin⟩ ok hpd idx t h I s
 obtain ⟨ha, _⟩ := I.loud ok hpre hin ho undef
 refine w idx t h I.sz ha s (wanted_yes' I.sz ha hg) fun v L' x' h' s' hst hap => ?_
 obtain ⟨_, I'⟩ := I.loud ok hpre hin ho v
 exact hap ⟨pre ++ [i], by rw [hpre]; simp, fun p hp => by simp [hin p (List.mem_filter.1 hp).1]⟩ ok (fun p hp => hst p hp (hpd p (List.mem_filter.1 hp).1)) idx _ h' I' s'
theorem ap1_mo [Lets B] {i : Nat} {o : Oper} {d : Option Nat} {Pd' : List Pn} {Q : Value → List HProp → Prop} (ho : nth ops.toList i = some o) (hd : o.dst = d) (hpd' : pdKeep ops i Pd = Pd') (hg : gYes (resE (readsOf n ops i) e) (guardOf n ops o))
  (m : Mo P (resE (readsOf n ops i) e) o.op o.type L Q) (hre : ∀ v L', Q v L' → ∀ p ∈ Pd', p.st = true ∨ ∃ o, nth ops.toList p.i = some o ∧ gYes p.e (guardOf n ops o) ∧ Mo P p.e o.op o.type L' (fun v' L1 => v' = p.v ∧ L1 = L'))
  (k : ∀ v L', Q v L' → Ap P B kd n ops ord R Pd' K (setE d v e) z L' x) : Ap1 P B kd n ops ord i R Pd K e z L x := by
 subst hd
 subst hpd'
 have ho := nth_at ho
 refine ap1_gen ho hg fun idx t h ht ha s hw kk => ?_
 refine wr_op ho hw ?_
 rw [execOp_of (op := o.op) (ty := o.type) _ rfl rfl]
 refine m _ Lets.noRoom Lets.ext t h _ _ ha s fun v' L' h' nx hnx hr hs => ?_
 have := kk v' L' x h' hs (fun p hp hk => by
  by_cases hs : p.st = true
  ·exact pd_still (Pd' := [p]) (by simp [hs]) p (by simp) hk
  ·rcases hre v' L' hr p hp with h | ⟨o, h1, h2, h3⟩
   ·exact absurd h hs
   ·exact ⟨o, nth_at h1, .inl ⟨h2, by rw [if_neg hs]; exact h3⟩⟩) (k v' L' hr)
 rcases hnx with rfl | ⟨rfl, rfl⟩
 ·exact this
 ·exact this
theorem ap1_call [Lets B] {i : Nat} {Pd' : List Pn} {d : Option Nat} {fo : Operand} {args : List Operand} {tys : Array TypeId} {ty : TypeId} {pos : String} {aft : Array Edge} {gd : Option (Nat × Bool)} {fv : Value} {f : FuncId} {first cap vs : List Value} {Q : Value → List HProp → B.X → Prop} (ho : nth ops.toList i = some ⟨d, .call ⟨.value fo, args.toArray, tys⟩, ty, pos, aft, gd⟩)
  (hpd' : pdKeep ops i Pd = Pd') (hg : gYes (resE (readsOf n ops i) e) (guardOf n ops ⟨d, .call ⟨.value fo, args.toArray, tys⟩, ty, pos, aft, gd⟩))
  (hf : ev (resE (readsOf n ops i) e) fo = some fv) (hc : callee? fv = some (f, first, cap)) (hargs : EvL (resE (readsOf n ops i) e) args vs) [en : Ent' P f] [pk : Pass K z] (m : Tr P B f (first ++ vs ++ cap) L x Q)
  (hre : ∀ v L' x', Q v L' x' → ∀ p ∈ Pd', p.st = true ∨ ∃ o, nth ops.toList p.i = some o ∧ gYes p.e (guardOf n ops o) ∧ Mo P p.e o.op o.type L' (fun v' L1 => v' = p.v ∧ L1 = L'))
  (k : ∀ v L' x', Q v L' x' → Ap P B kd n ops ord R Pd' K (setE d v e) z L' x') : Ap1 P B kd n ops ord i R Pd K e z L x := by
 subst hpd'
 have ho := nth_at ho
 refine ap1_gen ho hg fun idx t h ht ha s hw kk => ?_
 refine wr_op ho hw ?_
 have hfv : evT t fo = fv := ha.ev hf
 have hav := hargs.evT ha
 have hex : execOp (evT t) ⟨d, .call ⟨.value fo, args.toArray, tys⟩, ty, pos, aft, gd⟩ = callFunc f (first ++ vs ++ cap).toArray := by
  show (do let d ← resolve (evT t) ⟨.value fo, args.toArray, tys⟩ ty; invoke d.target d.args : Sem Next) = _
  cases fv with
  | func fn fi ca =>
   cases fn with
   | func g =>
    simp only [callee?, Option.some.injEq, Prod.mk.injEq] at hc
    obtain ⟨rfl, rfl, rfl⟩ := hc
    simp only [resolve, hfv, Deferred.ofValue, List.map_toArray, hav]
    show callFunc g ((fi ++ vs.toArray) ++ ca) = _
    congr 1
    apply Array.ext'
    simp
   | _ => cases hc
  | _ => cases hc
 rw [hex]
 refine wpS_callFunc en.ok ?_
 refine m h .run _ s (fun v L' x' h' r s' => ⟨rfl, ?_⟩) (fun ch h' x' hc => ⟨rfl, pk.ok ch t h' x' hc⟩)
 exact kk v L' x' h' s' (fun p hp hk => by
  by_cases hs : p.st = true
  ·exact pd_still (Pd' := [p]) (by simp [hs]) p (by simp) hk
  ·rcases hre v L' x' r p hp with h | ⟨o, h1, h2, h3⟩
   ·exact absurd h hs
   ·exact ⟨o, nth_at h1, .inl ⟨h2, by rw [if_neg hs]; exact h3⟩⟩) (k v L' x' r)
theorem ap_star {L' : List HProp} (hs : ∀ h, Star L h → Star L' h) (hre : ∀ p ∈ Pd, p.st = true ∨ ∃ o, nth ops.toList p.i = some o ∧ gYes p.e (guardOf n ops o) ∧ Mo P p.e o.op o.type L' (fun v' L1 => v' = p.v ∧ L1 = L')) (k : Ap P B kd n ops ord R Pd K e z L' x) : Ap P B kd n ops ord R Pd K e z L x := by
 intro hpre ok hpd idx t h I s
 refine k hpre ok (fun p hp => ?_) idx t h I (hs h s)
 by_cases hst : p.st = true
 ·exact pd_still (Pd' := [p]) (by simp [hst]) p (by simp) (hpd p hp)
 ·rcases hre p hp with h | ⟨o, h1, h2, h3⟩
  ·exact absurd h hst
  ·exact ⟨o, nth_at h1, .inl ⟨h2, by rw [if_neg hst]; exact h3⟩⟩
end
end Go.PB
namespace Go.PB
variable {P : Program} {B : Hand} {kd : CallKind} {n : Nat} {K : Post B} {e : Env} {z : Z} {L : List HProp} {x : B.X}
end Go.PB
namespace Go.PB
theorem mo_buildV {P : Program} {e : Env} {ty : TypeId} {L : List HProp} {t : TypeId} {parts : Array (Nat × Operand)} {vs : List Value} {ps : Array (Nat × Nat)} {z cells : Array Value} [p : StT P t ps z] (hv : EvL e (parts.toList.map (·.2)) vs) (hf : Instr.fill (ps[·]?) z ((parts.toList.map (·.1)).zip vs) = some cells) : Mo P e (.build t parts) ty L fun v' L' => v' = .agg cells ∧ L' = L := by
 have hl : ∀ {os : List Operand} {vs : List Value}, EvL e os vs → os.length = vs.length := by
  intro os vs h
  induction h with
  | nil => rfl
  | cons _ _ ih => simp [ih]
 have hlen := hl hv
 rw [List.length_map] at hlen
 refine mo_build (pv := (parts.toList.map (·.1)).zip vs) ?_ ?_ hf
 ·rw [List.map_fst_zip]; simp [hlen]
 ·rw [List.map_snd_zip]
  ·exact hv
  ·simp [hlen]
section
variable {P : Program} {L : List HProp} {b o : Nat} {p q : Option Addr}
open Extern.Atomic
end
def shpC (b : Nat) (t : TypeId) (n : Nat) : HProp := fun h => h.shp b = some (t, n)
theorem star_newS {b : Nat} {c : Array Value} {L : List HProp} {h : Hp} {t : TypeId} (f : h.fresh b) (s : Star L h) : Star (arr b 0 c.toList :: shpC b t c.size :: L) (h.newCells b c t) := by
 refine ⟨⟨fun b' o' => if b' = b then c[o']? else none, fun _ _ => none, fun _ => none, fun _ => none⟩, { h with shp := fun b' => if b' = b then some (t, c.size) else h.shp b' },
  ⟨fun _ _ _ e => by simp at e, fun _ _ _ e => e, ?_, ?_, ?_, fun _ _ e => by simp at e, fun _ _ e => e, fun _ => .inl rfl, fun _ _ e => by simp at e, fun _ _ e => e⟩, ?_,
  ⟨fun _ _ => none, fun _ _ => none, fun _ => none, fun b' => if b' = b then some (t, c.size) else none⟩, h, ⟨fun _ _ _ e => by simp at e, fun _ _ _ e => e, fun _ _ _ e => by simp at e, fun _ _ _ e => e, fun _ _ => .inl rfl, fun _ _ e => by simp at e, fun _ _ e => e, fun _ => .inl rfl, ?_, ?_⟩, by simp [shpC], s⟩
 ·intro b' o' v e
  simp only [Hp.newCells] at e ⊢
  split at e
  ·rename_i hh; simp [hh, e]
  ·cases e
 ·intro b' o' v e
  simp only [Hp.newCells]
  rw [if_neg (by rintro rfl; simp only at e; rw [f.1] at e; cases e)]
  exact e
 ·intro b' o'
  by_cases hb : b' = b
  ·subst hb; exact .inr (f.1 o')
  ·left; simp [hb]
 ·intro i v e
  simp only [Nat.zero_add, if_true]
  simpa using e
 ·intro b' y e
  simp only at e ⊢
  split at e
  ·rename_i hh; simp [hh, e]
  ·cases e
 ·intro b' y e
  simp only
  rw [if_neg (by rintro rfl; rw [f.2.2.2] at e; cases e)]
  exact e
theorem shp_of {b : Nat} {t : TypeId} {n : Nat} {L F : List HProp} (hh : Has L (shpC b t n) F) {h : Hp} (s : Star L h) : h.shp b = some (t, n) := by
 obtain ⟨h1, h2, s1, hc, _⟩ := hh.star s
 exact s1.s1 _ _ hc
section
variable {P : Program} {e : Env} {L : List HProp} {ty : TypeId}
theorem mo_boxS {t : TypeId} {o : Operand} {v : Value} (hx : ev e o = some v) : Mo P e (.box t o) ty L fun v' L' => ∃ b, v' = .pointer (some ⟨b, 0, none⟩) ∧ L' = arr b 0 v.cells.toList :: shpC b t v.cells.size :: L := by
 intro M _ _ tt h Q X ag s q
 show wpS P M (Sem.bind (Sem.bind (newVar t (evT tt o)) fun a => pure (.pointer (some a))) fun v => pure (.value v)) h Q X
 rw [ag.ev hx]
 refine wpS_bind _ _ (wpS_bind _ _ fun b hf => ?_)
 exact q _ _ _ _ (.inl rfl) ⟨b, rfl, rfl⟩ (star_newS hf s)
theorem wpS_shapeK {M : Mark → Prop} {α : Type} {b n : Nat} {t : TypeId} {h : Hp} {k : Option (TypeId × Nat) → Sem α} {Q : α → Hp → Prop} {X : Value → Hp → Prop} (hs : h.shp b = some (t, n)) (q : wpS P M (k (some (t, n))) h Q X) : wpS P M (Sem.bind (shape b) k) h Q X := by
 show wpS P M (.shape b fun s => k s) h Q X
 refine ⟨.inr (by rw [hs]; rfl), fun t' n' _ hy => ?_⟩
 have := hy _ hs
 cases this
 exact q
theorem wpS_seen {M : Mark → Prop} {α : Type} {b o n : Nat} {t : TypeId} {h : Hp} {k : Addr → Sem α} {Q : α → Hp → Prop} {X : Value → Hp → Prop} (hs : h.shp b = some (t, n)) (q : wpS P M (k ⟨b, o, none⟩) h Q X) : wpS P M (Sem.bind (Conv.seenAt ⟨b, o, none⟩) k) h Q X := by
 refine wpS_bind _ _ ?_
 unfold Conv.seenAt
 refine wpS_bind _ _ ?_
 unfold viewAt
 exact wpS_shapeK hs q
end
end Go.PB
namespace Go.Proofs.Ytcladnioicackaa
open Go Go.PB
attribute [local irreducible] Mo Bin Eql Tr Wo Ap
section
variable {B : Hand} [Lets B] {L F : List HProp} {x : B.X}
def inC (x : Mach.In) : List Value := [.int .i64 (x.op : Nat), .int .i64 (x.on : Nat), .int .i64 (x.a : Nat), .int .i64 (x.b : Nat), .int .i64 (x.c : Nat), .int .i64 (x.d : Nat), .int .u64 (x.n : Nat)]
theorem next_tr {tb cb co ncalls ccap call pc kc : Nat} {kp : Option Addr} {code : List Mach.In} (r0 : Rd L tb 0 (.slice (some ⟨cb, co, none⟩) ncalls ccap)) (r1 : Rd L tb 1 (.int .i64 call)) (r2 : Rd L tb 2 (.int .i64 pc)) (hcall : call < ncalls)
  (rc : Rd L cb (co + 2 * call) (.slice kp code.length kc)) (rk : ∀ y, code[pc]? = some y → ∃ kb ko, kp = some ⟨kb, ko, none⟩ ∧ Rds L kb (ko + 7 * pc) (inC y)) :
  Tr Try.prog B 105 [.pointer (some ⟨tb, 0, none⟩)] L x fun v L' x' => v = .agg (inC (code.getD pc Mach.fin)).toArray ∧ L' = L ∧ x' = x := by
 refine Tr.post (R := fun v L' x' => ∃ c, v = .agg (inC (code.getD pc Mach.fin)).toArray ∧ L' = c :: L ∧ x' = x) ?_ (by rintro v L' x' ⟨c, rfl, rfl, rfl⟩; exact ⟨L, ⟨rfl, rfl, rfl⟩, fun h s => star_drop s⟩)
 by_cases hc : pc < code.length
 ·obtain ⟨y, hy⟩ : ∃ y, code[pc]? = some y := ⟨code[pc]'hc, by simp [hc]⟩
  obtain ⟨kb, ko, rfl, hr⟩ := rk y hy
  refine tr_of_body Try.func105 rfl Try.ntmps105 (by simp) fun um Q _ hQ => ?_
  simp only [argE, Nat.zero_add, Nat.reduceAdd]
  repeat (first | (apply wo_mo; apply mo_alloc; exact trivial) | refine we_seq ?_ | (refine wR ?_; try simp only [oS]))
  rintro v' L' ⟨rb, rfl, rfl⟩
  repeat (first | refine we_seq ?_ | refine wo_nil ?_)
  refine we_draw [0, 1, 2, 3, 4, 5, 6, 7, 8, 9, 10, 11] (by kernel_rfl) ?_
  repeat (first | (apply ap_read; exact rfl; exact rfl; exact trivial; apply mo_load; exact rfl; exact Rd.there r0) | (apply ap_read; exact rfl; exact rfl; exact trivial; apply mo_load; exact rfl; exact Rd.there r1) | (apply ap_read; exact rfl; exact rfl; exact trivial; apply mo_load; exact rfl; exact Rd.there rc) | (apply ap_pure; exact rfl; exact rfl; exact trivial; intro L; apply mo_indexAddr (r := co + 2 * call); exact rfl; exact rfl; omega; omega; omega) | refine aM ?_ | refine aA ?_ | refine aN ?_ | refine aD ?_ | refine ap_end ?_)
  repeat (first | (apply wo_po; apply mo_load; exact rfl; exact Rd.there r2; exact gY) | (apply wo_po; apply mo_indexAddr (r := ko + 7 * pc); exact rfl; exact rfl; omega; omega; omega; exact trivial) | (apply wo_po; apply mo_loadA (vs := inC y); exact rfl; exact rfl; exact fun i v hi => Rd.there (hr i v hi); exact trivial) | refine wlssF ?_ | refine wgeqF ?_ | refine we_seq ?_ | (refine wR ?_; try simp only [oS]) | refine wo_nil ?_ | refine wM ?_ | refine wJ ?_ | refine wN ?_ | refine wD ?_ | refine wE ?_ | refine wF ?_ | refine we_skip ?_)
  repeat (first | (apply wo_pm; apply mo_storeA (c := 0) (k := 0) (a := 0) (vs := inC { op := 0 }) (v := .agg (inC y).toArray); exact rfl; exact rfl; exact rfl; (intro w hw; simp [Value.cells, inC] at hw; rcases hw with rfl | rfl | rfl | rfl | rfl | rfl | rfl <;> rfl); exact rfl; exact Nat.le_refl 7; exact .here; exact trivial) | refine wo_nil ?_ | refine we_ret ?_)
  refine at_leaveM (rs := [.cell 2 126]) Try.func105 Try.results105 hQ (.inl rfl) (.cons (.cell (vs := inC y) rfl rfl (Rds.all .here)) .nil) ?_
  exact ⟨_, by simp [packR, hy], rfl, rfl⟩
 ·refine tr_of_body Try.func105 rfl Try.ntmps105 (by simp) fun um Q _ hQ => ?_
  simp only [argE, Nat.zero_add, Nat.reduceAdd]
  repeat (first | (apply wo_mo; apply mo_alloc; exact trivial) | refine we_seq ?_ | (refine wR ?_; try simp only [oS]))
  rintro v' L' ⟨rb, rfl, rfl⟩
  repeat (first | refine we_seq ?_ | refine wo_nil ?_)
  refine we_draw [0, 1, 2, 3, 4, 5, 6, 7, 8, 9, 10, 11] (by kernel_rfl) ?_
  repeat (first | (apply ap_read; exact rfl; exact rfl; exact trivial; apply mo_load; exact rfl; exact Rd.there r0) | (apply ap_read; exact rfl; exact rfl; exact trivial; apply mo_load; exact rfl; exact Rd.there r1) | (apply ap_read; exact rfl; exact rfl; exact trivial; apply mo_load; exact rfl; exact Rd.there rc) | (apply ap_pure; exact rfl; exact rfl; exact trivial; intro L; apply mo_indexAddr (r := co + 2 * call); exact rfl; exact rfl; omega; omega; omega) | refine aM ?_ | refine aA ?_ | refine aN ?_ | refine aD ?_ | refine ap_end ?_)
  repeat (first | (apply wo_po; apply mo_load; exact rfl; exact Rd.there r2; exact gY) | refine wlssF ?_ | refine wgeqT ?_ | refine we_seq ?_ | (refine wR ?_; try simp only [oS]) | refine wo_nil ?_ | refine wM ?_ | refine wJ ?_ | refine wN ?_ | refine wD ?_ | refine wE ?_ | refine wT ?_)
  repeat (first | (apply wo_po; apply mo_build (pv := [(0, _)]); exact rfl; exact .cons rfl .nil; exact rfl; exact trivial) | (apply wo_pm; apply mo_storeA (c := 0) (k := 0) (a := 0) (vs := inC { op := 0 }) (v := .agg (inC Mach.fin).toArray); exact rfl; exact rfl; exact rfl; (intro w hw; simp [Value.cells, inC] at hw; rcases hw with rfl | rfl | rfl | rfl | rfl | rfl | rfl <;> rfl); exact rfl; exact Nat.le_refl 7; exact .here; exact trivial) | refine wo_nil ?_ | refine we_ret ?_)
  refine at_leaveM (rs := [.cell 2 126]) Try.func105 Try.results105 hQ (.inl rfl) (.cons (.cell (vs := inC Mach.fin) rfl rfl (Rds.all .here)) .nil) ?_
  exact ⟨_, by simp [packR, hc], rfl, rfl⟩
end
end Go.Proofs.Ytcladnioicackaa
namespace Go.PB
variable {P : Program} {e : Env} {L : List HProp} {ty : TypeId}
def thCells (cv : Value) (t : Mach.Th) (av : Value) : List Value := [cv, .int .i64 (t.call : Nat), .int .i64 (t.pc : Nat)] ++ ((List.range 24).map (fun i => num (t.r i)) ++ [av, .bool t.over])
theorem thCells_len {cv av : Value} {t : Mach.Th} : (thCells cv t av).length = 29 := by simp [thCells]
theorem thCells_reg {cv av : Value} {t : Mach.Th} {i : Nat} (h : i < 24) : (thCells cv t av)[3 + i]? = some (num (t.r i)) := by
 unfold thCells
 rw [List.getElem?_append_right (by simp), List.getElem?_append_left (by simp; omega)]
 simp [h]
theorem thCells_set {cv av : Value} {t : Mach.Th} {a v : Nat} (h : a < 24) : (thCells cv t av).set (3 + a) (num v) = thCells cv { t with r := upd t.r a v } av := by
 unfold thCells
 rw [List.set_append_right _ _ (by simp), List.set_append_left _ _ (by simp; omega)]
 congr 2
 apply List.ext_getElem?
 intro i
 rw [List.getElem?_set]
 simp only [List.length_cons, List.length_nil, List.length_map, List.length_range, List.getElem?_map]
 by_cases e : 3 + a - (0 + 1 + 1 + 1) = i
 ·obtain rfl : i = a := by omega
  simp [h, upd]
 ·rw [if_neg e]
  by_cases hi : i < 24
  ·simp [hi, upd, show ¬ i = a by omega]
  ·simp [hi]
theorem rd_reg {tb : Nat} {cv av : Value} {t : Mach.Th} {F : List HProp} (hh : Has L (arr tb 0 (thCells cv t av)) F) {i : Nat} (h : i < 24) : Rd L tb (3 + i) (num (t.r i)) :=
 Rd.of hh (Rd.row (k := 3 + i) (thCells_reg h) (by omega))
end Go.PB
namespace Go.Proofs.Ytcladnioicackaa
open Go Go.PB
attribute [local irreducible] Mo Bin Eql Tr Wo Ap
variable {B : Hand} [Lets B] {L F : List HProp} {x : B.X}
set_option maxHeartbeats 4000000 in
theorem own_reg_tr {tb : Nat} {w cv av : Value} {t : Mach.Th} {i : Mach.In} (hop : 6 ≤ i.op ∧ i.op ≤ 16) (hi : i.ok = true) (hr : ∀ j, t.r j < 18446744073709551616) (hpc : t.pc < 1000000) (hh : Has L (arr tb 0 (thCells cv t av)) F) :
  Tr Try.prog B 107 [.pointer (some ⟨tb, 0, none⟩), w, .agg (inC i).toArray] L x fun v L' x' => v = .tuple #[] ∧ L' = arr tb 0 (thCells cv (Mach.own t i) av) :: F ∧ x' = x := by
 refine tr_star _ (fun h s => hh.star s) ?_
 clear hh
 refine Tr.post (R := fun v L' x' => ∃ c, v = .tuple #[] ∧ L' = c :: arr tb 0 (thCells cv (Mach.own t i) av) :: F ∧ x' = x) ?_ (by rintro v L' x' ⟨c, rfl, rfl, rfl⟩; exact ⟨_, ⟨rfl, rfl, rfl⟩, fun h s => star_drop s⟩)
 obtain ⟨op, on, a, b, c, d, n⟩ := i
 simp only [Mach.In.ok, Bool.and_eq_true, decide_eq_true_eq, Bool.or_eq_true, Bool.not_eq_true', decide_eq_false_iff_not] at hi hop
 obtain ⟨⟨⟨⟨⟨⟨⟨⟨⟨⟨_, _⟩, ha⟩, hb⟩, hc⟩, hd⟩, hon⟩, hn⟩, _⟩, _⟩, hsh⟩ := hi
 have hops : op = 6 ∨ op = 7 ∨ op = 8 ∨ op = 9 ∨ op = 10 ∨ op = 11 ∨ op = 12 ∨ op = 13 ∨ op = 14 ∨ op = 15 ∨ op = 16 := by omega
 have hregs : ∀ {e : HProp}, ∀ j, j < 24 → Rd (e :: arr tb 0 (thCells cv { t with pc := t.pc + 1 } av) :: F) tb (3 + j) (num (t.r j)) := fun {e} j h => rd_reg (t := { t with pc := t.pc + 1 }) (.there .here) h
 have vb := hr b
 have vc := hr c
 rcases hops with rfl | rfl | rfl | rfl | rfl | rfl | rfl | rfl | rfl | rfl | rfl
 ·refine tr_of_body Try.func107 rfl Try.ntmps107 (by simp) fun um Q _ hQ => ?_
  simp only [argE, Nat.zero_add, Nat.reduceAdd]
  repeat (first | (apply wo_mo; apply mo_box; exact rfl; exact trivial) | refine we_seq ?_ | (refine wR ?_; try simp only [oS]))
  rintro v' L' ⟨xb, rfl, rfl⟩
  repeat (first | refine wS ?_ | refine weqlT ?_ | refine we_seq ?_ | (refine wR ?_; try simp only [oS]) | refine wo_nil ?_ | refine wM ?_ | refine wA ?_ | refine wN ?_ | refine wD ?_ | refine wL ?_ | refine wadd ?_ | refine wT ?_ | refine we_block ?_)
  refine we_ent (arr xb 0 (inC ⟨6, on, a, b, c, d, n⟩) :: arr tb 0 (thCells cv { t with pc := t.pc + 1 } av) :: F) .refl ?_
  refine we_draw (List.range' 0 8) (by kernel_rfl) ?_
  have hreg := @hregs (arr xb 0 (inC ⟨6, on, a, b, c, d, n⟩))
  repeat (first | (apply ap_pure; exact rfl; exact rfl; exact trivial; intro L; apply mo_indexArr1; exact rfl; exact rfl; omega) | refine aM ?_ | refine aN ?_ | refine aD ?_ | refine aL ?_)
  refine ap_loud rfl rfl rfl rfl rfl trivial (mo_store rfl rfl rfl (Wt.row0 (k := 3 + a) (vs := thCells cv { t with pc := t.pc + 1 } av) (.there .here) (by rw [thCells_len]; omega))) ?_
  rintro v' L' ⟨rfl, rfl⟩
  refine ap_end ?_
  refine at_ent (arr xb 0 (inC ⟨6, on, a, b, c, d, n⟩) :: arr tb 0 (thCells cv (Mach.own t ⟨6, on, a, b, c, d, n⟩) av) :: F) (ent_eq (by rw [show (Value.int .u64 (n : Int)) = num (n % 18446744073709551616) by rw [Nat.mod_eq_of_lt hn]; rfl, thCells_set ha]; rfl)) ?_
  skip
  (first | refine or0 Try.func107 Try.results107 hQ ?_ | refine on0 Try.func107 Try.results107 hQ ?_)
  exact ⟨_, rfl, rfl, rfl⟩
 ·refine tr_of_body Try.func107 rfl Try.ntmps107 (by simp) fun um Q _ hQ => ?_
  simp only [argE, Nat.zero_add, Nat.reduceAdd]
  repeat (first | (apply wo_mo; apply mo_box; exact rfl; exact trivial) | refine we_seq ?_ | (refine wR ?_; try simp only [oS]))
  rintro v' L' ⟨xb, rfl, rfl⟩
  repeat (first | refine wS ?_ | refine weqlT ?_ | refine weqlF ?_ | refine we_seq ?_ | (refine wR ?_; try simp only [oS]) | refine wo_nil ?_ | refine wM ?_ | refine wA ?_ | refine wN ?_ | refine wD ?_ | refine wL ?_ | refine wadd ?_ | refine wT ?_ | refine wF ?_ | refine we_block ?_)
  refine we_ent (arr xb 0 (inC ⟨7, on, a, b, c, d, n⟩) :: arr tb 0 (thCells cv { t with pc := t.pc + 1 } av) :: F) .refl ?_
  refine we_draw (List.range' 0 12) (by kernel_rfl) ?_
  have hreg := @hregs (arr xb 0 (inC ⟨7, on, a, b, c, d, n⟩))
  repeat (first | (apply ap_pure; exact rfl; exact rfl; exact trivial; intro L; apply mo_indexArr1; exact rfl; exact rfl; omega) | (apply ap_read; exact rfl; exact rfl; exact trivial; apply mo_load; exact rfl; exact hreg _ hb) | refine aM ?_ | refine aN ?_ | refine aD ?_ | refine aL ?_)
  refine ap_loud rfl rfl rfl rfl rfl trivial (mo_store rfl rfl rfl (Wt.row0 (k := 3 + a) (vs := thCells cv { t with pc := t.pc + 1 } av) (.there .here) (by rw [thCells_len]; omega))) ?_
  rintro v' L' ⟨rfl, rfl⟩
  refine ap_end ?_
  refine at_ent (arr xb 0 (inC ⟨7, on, a, b, c, d, n⟩) :: arr tb 0 (thCells cv (Mach.own t ⟨7, on, a, b, c, d, n⟩) av) :: F) (ent_eq (by rw [show num (t.r b) = num (t.r b % 18446744073709551616) by rw [Nat.mod_eq_of_lt vb], thCells_set ha]; rfl)) ?_
  skip
  (first | refine or0 Try.func107 Try.results107 hQ ?_ | refine on0 Try.func107 Try.results107 hQ ?_)
  exact ⟨_, rfl, rfl, rfl⟩
 ·refine tr_of_body Try.func107 rfl Try.ntmps107 (by simp) fun um Q _ hQ => ?_
  simp only [argE, Nat.zero_add, Nat.reduceAdd]
  repeat (first | (apply wo_mo; apply mo_box; exact rfl; exact trivial) | refine we_seq ?_ | (refine wR ?_; try simp only [oS]))
  rintro v' L' ⟨xb, rfl, rfl⟩
  repeat (first | refine wS ?_ | refine weqlT ?_ | refine weqlF ?_ | refine we_seq ?_ | (refine wR ?_; try simp only [oS]) | refine wo_nil ?_ | refine wM ?_ | refine wA ?_ | refine wN ?_ | refine wD ?_ | refine wL ?_ | refine wadd ?_ | refine wT ?_ | refine wF ?_ | refine we_block ?_)
  refine we_ent (arr xb 0 (inC ⟨8, on, a, b, c, d, n⟩) :: arr tb 0 (thCells cv { t with pc := t.pc + 1 } av) :: F) .refl ?_
  refine we_draw (List.range' 0 22) (by kernel_rfl) ?_
  have hreg := @hregs (arr xb 0 (inC ⟨8, on, a, b, c, d, n⟩))
  repeat (first | (apply ap_pure; exact rfl; exact rfl; exact trivial; intro L; apply mo_indexArr1; exact rfl; exact rfl; omega) | (apply ap_read; exact rfl; exact rfl; exact trivial; apply mo_load; exact rfl; exact hreg _ hb) | (apply ap_read; exact rfl; exact rfl; exact trivial; apply mo_load; exact rfl; exact hreg _ hc) | (apply ap_pure; exact rfl; exact rfl; exact trivial; intro L; apply mo_bin; exact rfl; exact rfl; apply bin_add; exact u64_add) | refine aM ?_ | refine aN ?_ | refine aD ?_ | refine aL ?_)
  refine ap_loud rfl rfl rfl rfl rfl trivial (mo_store rfl rfl rfl (Wt.row0 (k := 3 + a) (vs := thCells cv { t with pc := t.pc + 1 } av) (.there .here) (by rw [thCells_len]; omega))) ?_
  rintro v' L' ⟨rfl, rfl⟩
  refine ap_end ?_
  refine at_ent (arr xb 0 (inC ⟨8, on, a, b, c, d, n⟩) :: arr tb 0 (thCells cv (Mach.own t ⟨8, on, a, b, c, d, n⟩) av) :: F) (ent_eq (by rw [show Value.int .u64 (((((t.r b + t.r c) % 18446744073709551616) + n) % 18446744073709551616 : Nat) : Int) = num ((t.r b + t.r c + n) % 18446744073709551616) by unfold num; congr 1; omega, thCells_set ha]; rfl)) ?_
  skip
  (first | refine or0 Try.func107 Try.results107 hQ ?_ | refine on0 Try.func107 Try.results107 hQ ?_)
  exact ⟨_, rfl, rfl, rfl⟩
 ·refine tr_of_body Try.func107 rfl Try.ntmps107 (by simp) fun um Q _ hQ => ?_
  simp only [argE, Nat.zero_add, Nat.reduceAdd]
  repeat (first | (apply wo_mo; apply mo_box; exact rfl; exact trivial) | refine we_seq ?_ | (refine wR ?_; try simp only [oS]))
  rintro v' L' ⟨xb, rfl, rfl⟩
  repeat (first | refine wS ?_ | refine weqlT ?_ | refine weqlF ?_ | refine we_seq ?_ | (refine wR ?_; try simp only [oS]) | refine wo_nil ?_ | refine wM ?_ | refine wA ?_ | refine wN ?_ | refine wD ?_ | refine wL ?_ | refine wadd ?_ | refine wT ?_ | refine wF ?_ | refine we_block ?_)
  refine we_ent (arr xb 0 (inC ⟨9, on, a, b, c, d, n⟩) :: arr tb 0 (thCells cv { t with pc := t.pc + 1 } av) :: F) .refl ?_
  refine we_draw (List.range' 0 19) (by kernel_rfl) ?_
  have hreg := @hregs (arr xb 0 (inC ⟨9, on, a, b, c, d, n⟩))
  repeat (first | (apply ap_pure; exact rfl; exact rfl; exact trivial; intro L; apply mo_indexArr1; exact rfl; exact rfl; omega) | (apply ap_read; exact rfl; exact rfl; exact trivial; apply mo_load; exact rfl; exact hreg _ hb) | (apply ap_read; exact rfl; exact rfl; exact trivial; apply mo_load; exact rfl; exact hreg _ hc) | (apply ap_pure; exact rfl; exact rfl; exact trivial; intro L; apply mo_bin; exact rfl; exact rfl; apply bin_sub; exact u64_sub vc) | refine aM ?_ | refine aN ?_ | refine aD ?_ | refine aL ?_)
  refine ap_loud rfl rfl rfl rfl rfl trivial (mo_store rfl rfl rfl (Wt.row0 (k := 3 + a) (vs := thCells cv { t with pc := t.pc + 1 } av) (.there .here) (by rw [thCells_len]; omega))) ?_
  rintro v' L' ⟨rfl, rfl⟩
  refine ap_end ?_
  refine at_ent (arr xb 0 (inC ⟨9, on, a, b, c, d, n⟩) :: arr tb 0 (thCells cv (Mach.own t ⟨9, on, a, b, c, d, n⟩) av) :: F) (ent_eq (by rw [show Value.int .u64 (((t.r b + 18446744073709551616 - t.r c) % 18446744073709551616 : Nat) : Int) = num ((t.r b + 18446744073709551616 - t.r c) % 18446744073709551616) from rfl, thCells_set ha]; rfl)) ?_
  skip
  (first | refine or0 Try.func107 Try.results107 hQ ?_ | refine on0 Try.func107 Try.results107 hQ ?_)
  exact ⟨_, rfl, rfl, rfl⟩
 ·refine tr_of_body Try.func107 rfl Try.ntmps107 (by simp) fun um Q _ hQ => ?_
  simp only [argE, Nat.zero_add, Nat.reduceAdd]
  repeat (first | (apply wo_mo; apply mo_box; exact rfl; exact trivial) | refine we_seq ?_ | (refine wR ?_; try simp only [oS]))
  rintro v' L' ⟨xb, rfl, rfl⟩
  repeat (first | refine wS ?_ | refine weqlT ?_ | refine weqlF ?_ | refine we_seq ?_ | (refine wR ?_; try simp only [oS]) | refine wo_nil ?_ | refine wM ?_ | refine wA ?_ | refine wN ?_ | refine wD ?_ | refine wL ?_ | refine wadd ?_ | refine wT ?_ | refine wF ?_ | refine we_block ?_)
  refine we_ent (arr xb 0 (inC ⟨10, on, a, b, c, d, n⟩) :: arr tb 0 (thCells cv { t with pc := t.pc + 1 } av) :: F) .refl ?_
  refine we_draw (List.range' 0 19) (by kernel_rfl) ?_
  have hreg := @hregs (arr xb 0 (inC ⟨10, on, a, b, c, d, n⟩))
  repeat (first | (apply ap_pure; exact rfl; exact rfl; exact trivial; intro L; apply mo_indexArr1; exact rfl; exact rfl; omega) | (apply ap_read; exact rfl; exact rfl; exact trivial; apply mo_load; exact rfl; exact hreg _ hb) | (apply ap_read; exact rfl; exact rfl; exact trivial; apply mo_load; exact rfl; exact hreg _ hc) | (apply ap_pure; exact rfl; exact rfl; exact trivial; intro L; apply mo_bin; exact rfl; exact rfl; apply bin_mul; exact u64_mul) | refine aM ?_ | refine aN ?_ | refine aD ?_ | refine aL ?_)
  refine ap_loud rfl rfl rfl rfl rfl trivial (mo_store rfl rfl rfl (Wt.row0 (k := 3 + a) (vs := thCells cv { t with pc := t.pc + 1 } av) (.there .here) (by rw [thCells_len]; omega))) ?_
  rintro v' L' ⟨rfl, rfl⟩
  refine ap_end ?_
  refine at_ent (arr xb 0 (inC ⟨10, on, a, b, c, d, n⟩) :: arr tb 0 (thCells cv (Mach.own t ⟨10, on, a, b, c, d, n⟩) av) :: F) (ent_eq (by rw [show Value.int .u64 (((t.r b * t.r c) % 18446744073709551616 : Nat) : Int) = num ((t.r b * t.r c) % 18446744073709551616) from rfl, thCells_set ha]; rfl)) ?_
  skip
  (first | refine or0 Try.func107 Try.results107 hQ ?_ | refine on0 Try.func107 Try.results107 hQ ?_)
  exact ⟨_, rfl, rfl, rfl⟩
 ·by_cases h0 : t.r c = 0
  ·have hc1 : (t.r c : Int) = 0 := by omega
   refine tr_of_body Try.func107 rfl Try.ntmps107 (by simp) fun um Q _ hQ => ?_
   simp only [argE, Nat.zero_add, Nat.reduceAdd]
   repeat (first | (apply wo_mo; apply mo_box; exact rfl; exact trivial) | refine we_seq ?_ | (refine wR ?_; try simp only [oS]))
   rintro v' L' ⟨xb, rfl, rfl⟩
   repeat (first | refine wS ?_ | refine weqlT ?_ | refine weqlF ?_ | refine we_seq ?_ | (refine wR ?_; try simp only [oS]) | refine wo_nil ?_ | refine wM ?_ | refine wA ?_ | refine wN ?_ | refine wD ?_ | refine wL ?_ | refine wadd ?_ | refine wT ?_ | refine wF ?_ | refine we_block ?_)
   refine we_ent (arr xb 0 (inC ⟨11, on, a, b, c, d, n⟩) :: arr tb 0 (thCells cv { t with pc := t.pc + 1 } av) :: F) .refl ?_
   refine we_draw (List.range' 0 7) (by kernel_rfl) ?_
   have hreg := @hregs (arr xb 0 (inC ⟨11, on, a, b, c, d, n⟩))
   repeat (first | (apply ap_pure; exact rfl; exact rfl; exact trivial; intro L; apply mo_indexArr1; exact rfl; exact rfl; omega) | (apply ap_read; exact rfl; exact rfl; exact trivial; apply mo_load; exact rfl; exact hreg _ hc) | (apply ap_pure; exact rfl; exact rfl; exact trivial; intro L; apply mo_bin; exact rfl; exact rfl; apply bin_eqlT; exact hc1) | refine aM ?_ | refine aN ?_ | refine aD ?_ | refine aL ?_ | refine ap_end ?_)
   repeat (first | refine wT ?_)
   refine we_draw (List.range' 0 6) (by kernel_rfl) ?_
   have hreg := @hregs (arr xb 0 (inC ⟨11, on, a, b, c, d, n⟩))
   repeat (first | (apply ap_pure; exact rfl; exact rfl; exact trivial; intro L; apply mo_indexArr1; exact rfl; exact rfl; omega) | refine aM ?_ | refine aN ?_ | refine aD ?_ | refine aL ?_)
   refine ap_loud rfl rfl rfl rfl rfl trivial (mo_store rfl rfl rfl (Wt.row0 (k := 3 + a) (vs := thCells cv { t with pc := t.pc + 1 } av) (.there .here) (by rw [thCells_len]; omega))) ?_
   rintro v' L' ⟨rfl, rfl⟩
   refine ap_end ?_
   refine at_ent (arr xb 0 (inC ⟨11, on, a, b, c, d, n⟩) :: arr tb 0 (thCells cv (Mach.own t ⟨11, on, a, b, c, d, n⟩) av) :: F) (ent_eq (by rw [show Value.int .u64 0 = num ((if t.r c = 0 then 0 else t.r b / t.r c) % 18446744073709551616) by rw [if_pos h0]; rfl, thCells_set ha]; rfl)) ?_
   skip
   (first | refine or0 Try.func107 Try.results107 hQ ?_ | refine on0 Try.func107 Try.results107 hQ ?_)
   exact ⟨_, rfl, rfl, rfl⟩
  ·have hc0 : (t.r c : Int) ≠ 0 := by omega
   refine tr_of_body Try.func107 rfl Try.ntmps107 (by simp) fun um Q _ hQ => ?_
   simp only [argE, Nat.zero_add, Nat.reduceAdd]
   repeat (first | (apply wo_mo; apply mo_box; exact rfl; exact trivial) | refine we_seq ?_ | (refine wR ?_; try simp only [oS]))
   rintro v' L' ⟨xb, rfl, rfl⟩
   repeat (first | refine wS ?_ | refine weqlT ?_ | refine weqlF ?_ | refine we_seq ?_ | (refine wR ?_; try simp only [oS]) | refine wo_nil ?_ | refine wM ?_ | refine wA ?_ | refine wN ?_ | refine wD ?_ | refine wL ?_ | refine wadd ?_ | refine wT ?_ | refine wF ?_ | refine we_block ?_)
   refine we_ent (arr xb 0 (inC ⟨11, on, a, b, c, d, n⟩) :: arr tb 0 (thCells cv { t with pc := t.pc + 1 } av) :: F) .refl ?_
   refine we_draw (List.range' 0 7) (by kernel_rfl) ?_
   have hreg := @hregs (arr xb 0 (inC ⟨11, on, a, b, c, d, n⟩))
   repeat (first | (apply ap_pure; exact rfl; exact rfl; exact trivial; intro L; apply mo_indexArr1; exact rfl; exact rfl; omega) | (apply ap_read; exact rfl; exact rfl; exact trivial; apply mo_load; exact rfl; exact hreg _ hc) | (apply ap_pure; exact rfl; exact rfl; exact trivial; intro L; apply mo_bin; exact rfl; exact rfl; apply bin_eqlF; exact hc0) | refine aM ?_ | refine aN ?_ | refine aD ?_ | refine aL ?_ | refine ap_end ?_)
   repeat (first | refine wF ?_)
   refine we_draw (List.range' 0 19) (by kernel_rfl) ?_
   have hreg := @hregs (arr xb 0 (inC ⟨11, on, a, b, c, d, n⟩))
   repeat (first | (apply ap_pure; exact rfl; exact rfl; exact trivial; intro L; apply mo_indexArr1; exact rfl; exact rfl; omega) | (apply ap_read; exact rfl; exact rfl; exact trivial; apply mo_load; exact rfl; exact hreg _ hb) | (apply ap_read; exact rfl; exact rfl; exact trivial; apply mo_load; exact rfl; exact hreg _ hc) | (apply ap_pure; exact rfl; exact rfl; exact trivial; intro L; apply mo_bin; exact rfl; exact rfl; apply bin_quo; exact hc0; exact u64_quo) | refine aM ?_ | refine aN ?_ | refine aD ?_ | refine aL ?_)
   refine ap_loud rfl rfl rfl rfl rfl trivial (mo_store rfl rfl rfl (Wt.row0 (k := 3 + a) (vs := thCells cv { t with pc := t.pc + 1 } av) (.there .here) (by rw [thCells_len]; omega))) ?_
   rintro v' L' ⟨rfl, rfl⟩
   refine ap_end ?_
   refine at_ent (arr xb 0 (inC ⟨11, on, a, b, c, d, n⟩) :: arr tb 0 (thCells cv (Mach.own t ⟨11, on, a, b, c, d, n⟩) av) :: F) (ent_eq (by rw [show Value.int .u64 (((t.r b / t.r c) % 18446744073709551616 : Nat) : Int) = num ((if t.r c = 0 then 0 else t.r b / t.r c) % 18446744073709551616) by rw [if_neg h0]; rfl, thCells_set ha]; rfl)) ?_
   skip
   (first | refine or0 Try.func107 Try.results107 hQ ?_ | refine on0 Try.func107 Try.results107 hQ ?_)
   exact ⟨_, rfl, rfl, rfl⟩
 ·refine tr_of_body Try.func107 rfl Try.ntmps107 (by simp) fun um Q _ hQ => ?_
  simp only [argE, Nat.zero_add, Nat.reduceAdd]
  repeat (first | (apply wo_mo; apply mo_box; exact rfl; exact trivial) | refine we_seq ?_ | (refine wR ?_; try simp only [oS]))
  rintro v' L' ⟨xb, rfl, rfl⟩
  repeat (first | refine wS ?_ | refine weqlT ?_ | refine weqlF ?_ | refine we_seq ?_ | (refine wR ?_; try simp only [oS]) | refine wo_nil ?_ | refine wM ?_ | refine wA ?_ | refine wN ?_ | refine wD ?_ | refine wL ?_ | refine wadd ?_ | refine wT ?_ | refine wF ?_ | refine we_block ?_)
  refine we_ent (arr xb 0 (inC ⟨12, on, a, b, c, d, n⟩) :: arr tb 0 (thCells cv { t with pc := t.pc + 1 } av) :: F) .refl ?_
  refine we_draw (List.range' 0 19) (by kernel_rfl) ?_
  have hreg := @hregs (arr xb 0 (inC ⟨12, on, a, b, c, d, n⟩))
  repeat (first | (apply ap_pure; exact rfl; exact rfl; exact trivial; intro L; apply mo_indexArr1; exact rfl; exact rfl; omega) | (apply ap_read; exact rfl; exact rfl; exact trivial; apply mo_load; exact rfl; exact hreg _ hb) | (apply ap_read; exact rfl; exact rfl; exact trivial; apply mo_load; exact rfl; exact hreg _ hc) | (apply ap_pure; exact rfl; exact rfl; exact trivial; intro L; apply mo_bin; exact rfl; exact rfl; apply bin_and; exact and_u64' vb vc) | refine aM ?_ | refine aN ?_ | refine aD ?_ | refine aL ?_)
  refine ap_loud rfl rfl rfl rfl rfl trivial (mo_store rfl rfl rfl (Wt.row0 (k := 3 + a) (vs := thCells cv { t with pc := t.pc + 1 } av) (.there .here) (by rw [thCells_len]; omega))) ?_
  rintro v' L' ⟨rfl, rfl⟩
  refine ap_end ?_
  refine at_ent (arr xb 0 (inC ⟨12, on, a, b, c, d, n⟩) :: arr tb 0 (thCells cv (Mach.own t ⟨12, on, a, b, c, d, n⟩) av) :: F) (ent_eq (by rw [show Value.int .u64 (((t.r b &&& t.r c) % 18446744073709551616 : Nat) : Int) = num ((t.r b &&& t.r c) % 18446744073709551616) from rfl, thCells_set ha]; rfl)) ?_
  skip
  (first | refine or0 Try.func107 Try.results107 hQ ?_ | refine on0 Try.func107 Try.results107 hQ ?_)
  exact ⟨_, rfl, rfl, rfl⟩
 ·refine tr_of_body Try.func107 rfl Try.ntmps107 (by simp) fun um Q _ hQ => ?_
  simp only [argE, Nat.zero_add, Nat.reduceAdd]
  repeat (first | (apply wo_mo; apply mo_box; exact rfl; exact trivial) | refine we_seq ?_ | (refine wR ?_; try simp only [oS]))
  rintro v' L' ⟨xb, rfl, rfl⟩
  repeat (first | refine wS ?_ | refine weqlT ?_ | refine weqlF ?_ | refine we_seq ?_ | (refine wR ?_; try simp only [oS]) | refine wo_nil ?_ | refine wM ?_ | refine wA ?_ | refine wN ?_ | refine wD ?_ | refine wL ?_ | refine wadd ?_ | refine wT ?_ | refine wF ?_ | refine we_block ?_)
  refine we_ent (arr xb 0 (inC ⟨13, on, a, b, c, d, n⟩) :: arr tb 0 (thCells cv { t with pc := t.pc + 1 } av) :: F) .refl ?_
  refine we_draw (List.range' 0 19) (by kernel_rfl) ?_
  have hreg := @hregs (arr xb 0 (inC ⟨13, on, a, b, c, d, n⟩))
  repeat (first | (apply ap_pure; exact rfl; exact rfl; exact trivial; intro L; apply mo_indexArr1; exact rfl; exact rfl; omega) | (apply ap_read; exact rfl; exact rfl; exact trivial; apply mo_load; exact rfl; exact hreg _ hb) | (apply ap_read; exact rfl; exact rfl; exact trivial; apply mo_load; exact rfl; exact hreg _ hc) | (apply ap_pure; exact rfl; exact rfl; exact trivial; intro L; apply mo_bin; exact rfl; exact rfl; apply bin_or; exact or_u64 vb vc) | refine aM ?_ | refine aN ?_ | refine aD ?_ | refine aL ?_)
  refine ap_loud rfl rfl rfl rfl rfl trivial (mo_store rfl rfl rfl (Wt.row0 (k := 3 + a) (vs := thCells cv { t with pc := t.pc + 1 } av) (.there .here) (by rw [thCells_len]; omega))) ?_
  rintro v' L' ⟨rfl, rfl⟩
  refine ap_end ?_
  refine at_ent (arr xb 0 (inC ⟨13, on, a, b, c, d, n⟩) :: arr tb 0 (thCells cv (Mach.own t ⟨13, on, a, b, c, d, n⟩) av) :: F) (ent_eq (by rw [show Value.int .u64 (((t.r b ||| t.r c) % 18446744073709551616 : Nat) : Int) = num ((t.r b ||| t.r c) % 18446744073709551616) from rfl, thCells_set ha]; rfl)) ?_
  skip
  (first | refine or0 Try.func107 Try.results107 hQ ?_ | refine on0 Try.func107 Try.results107 hQ ?_)
  exact ⟨_, rfl, rfl, rfl⟩
 ·have hs : n < 64 := hsh.resolve_left (by simp)
  refine tr_of_body Try.func107 rfl Try.ntmps107 (by simp) fun um Q _ hQ => ?_
  simp only [argE, Nat.zero_add, Nat.reduceAdd]
  repeat (first | (apply wo_mo; apply mo_box; exact rfl; exact trivial) | refine we_seq ?_ | (refine wR ?_; try simp only [oS]))
  rintro v' L' ⟨xb, rfl, rfl⟩
  repeat (first | refine wS ?_ | refine weqlT ?_ | refine weqlF ?_ | refine we_seq ?_ | (refine wR ?_; try simp only [oS]) | refine wo_nil ?_ | refine wM ?_ | refine wA ?_ | refine wN ?_ | refine wD ?_ | refine wL ?_ | refine wadd ?_ | refine wT ?_ | refine wF ?_ | refine we_block ?_)
  refine we_ent (arr xb 0 (inC ⟨14, on, a, b, c, d, n⟩) :: arr tb 0 (thCells cv { t with pc := t.pc + 1 } av) :: F) .refl ?_
  refine we_draw (List.range' 0 15) (by kernel_rfl) ?_
  have hreg := @hregs (arr xb 0 (inC ⟨14, on, a, b, c, d, n⟩))
  repeat (first | (apply ap_pure; exact rfl; exact rfl; exact trivial; intro L; apply mo_indexArr1; exact rfl; exact rfl; omega) | (apply ap_read; exact rfl; exact rfl; exact trivial; apply mo_load; exact rfl; exact hreg _ hb) | (apply ap_pure; exact rfl; exact rfl; exact trivial; intro L; apply mo_bin; exact rfl; exact rfl; apply bin_shl; omega; exact u64_shl hs) | refine aM ?_ | refine aN ?_ | refine aD ?_ | refine aL ?_)
  refine ap_loud rfl rfl rfl rfl rfl trivial (mo_store rfl rfl rfl (Wt.row0 (k := 3 + a) (vs := thCells cv { t with pc := t.pc + 1 } av) (.there .here) (by rw [thCells_len]; omega))) ?_
  rintro v' L' ⟨rfl, rfl⟩
  refine ap_end ?_
  refine at_ent (arr xb 0 (inC ⟨14, on, a, b, c, d, n⟩) :: arr tb 0 (thCells cv (Mach.own t ⟨14, on, a, b, c, d, n⟩) av) :: F) (ent_eq (by rw [show Value.int .u64 (((t.r b * 2 ^ n) % 18446744073709551616 : Nat) : Int) = num ((t.r b * 2 ^ n) % 18446744073709551616) from rfl, thCells_set ha]; rfl)) ?_
  skip
  (first | refine or0 Try.func107 Try.results107 hQ ?_ | refine on0 Try.func107 Try.results107 hQ ?_)
  exact ⟨_, rfl, rfl, rfl⟩
 ·have hs : n < 64 := hsh.resolve_left (by simp)
  refine tr_of_body Try.func107 rfl Try.ntmps107 (by simp) fun um Q _ hQ => ?_
  simp only [argE, Nat.zero_add, Nat.reduceAdd]
  repeat (first | (apply wo_mo; apply mo_box; exact rfl; exact trivial) | refine we_seq ?_ | (refine wR ?_; try simp only [oS]))
  rintro v' L' ⟨xb, rfl, rfl⟩
  repeat (first | refine wS ?_ | refine weqlT ?_ | refine weqlF ?_ | refine we_seq ?_ | (refine wR ?_; try simp only [oS]) | refine wo_nil ?_ | refine wM ?_ | refine wA ?_ | refine wN ?_ | refine wD ?_ | refine wL ?_ | refine wadd ?_ | refine wT ?_ | refine wF ?_ | refine we_block ?_)
  refine we_ent (arr xb 0 (inC ⟨15, on, a, b, c, d, n⟩) :: arr tb 0 (thCells cv { t with pc := t.pc + 1 } av) :: F) .refl ?_
  refine we_draw (List.range' 0 15) (by kernel_rfl) ?_
  have hreg := @hregs (arr xb 0 (inC ⟨15, on, a, b, c, d, n⟩))
  repeat (first | (apply ap_pure; exact rfl; exact rfl; exact trivial; intro L; apply mo_indexArr1; exact rfl; exact rfl; omega) | (apply ap_read; exact rfl; exact rfl; exact trivial; apply mo_load; exact rfl; exact hreg _ hb) | (apply ap_pure; exact rfl; exact rfl; exact trivial; intro L; apply mo_bin; exact rfl; exact rfl; apply bin_shr; omega; exact u64_shr hs vb) | refine aM ?_ | refine aN ?_ | refine aD ?_ | refine aL ?_)
  refine ap_loud rfl rfl rfl rfl rfl trivial (mo_store rfl rfl rfl (Wt.row0 (k := 3 + a) (vs := thCells cv { t with pc := t.pc + 1 } av) (.there .here) (by rw [thCells_len]; omega))) ?_
  rintro v' L' ⟨rfl, rfl⟩
  refine ap_end ?_
  refine at_ent (arr xb 0 (inC ⟨15, on, a, b, c, d, n⟩) :: arr tb 0 (thCells cv (Mach.own t ⟨15, on, a, b, c, d, n⟩) av) :: F) (ent_eq (by rw [show Value.int .u64 (((t.r b / 2 ^ n) % 18446744073709551616 : Nat) : Int) = num ((t.r b / 2 ^ n) % 18446744073709551616) from rfl, thCells_set ha]; rfl)) ?_
  skip
  (first | refine or0 Try.func107 Try.results107 hQ ?_ | refine on0 Try.func107 Try.results107 hQ ?_)
  exact ⟨_, rfl, rfl, rfl⟩
 ·refine tr_of_body Try.func107 rfl Try.ntmps107 (by simp) fun um Q _ hQ => ?_
  simp only [argE, Nat.zero_add, Nat.reduceAdd]
  repeat (first | (apply wo_mo; apply mo_box; exact rfl; exact trivial) | refine we_seq ?_ | (refine wR ?_; try simp only [oS]))
  rintro v' L' ⟨xb, rfl, rfl⟩
  repeat (first | refine wS ?_ | refine weqlT ?_ | refine weqlF ?_ | refine we_seq ?_ | (refine wR ?_; try simp only [oS]) | refine wo_nil ?_ | refine wM ?_ | refine wA ?_ | refine wN ?_ | refine wD ?_ | refine wL ?_ | refine wadd ?_ | refine wT ?_ | refine wF ?_ | refine we_block ?_)
  refine we_ent (arr xb 0 (inC ⟨16, on, a, b, c, d, n⟩) :: arr tb 0 (thCells cv { t with pc := t.pc + 1 } av) :: F) .refl ?_
  refine we_draw (List.range' 0 19) (by kernel_rfl) ?_
  have hreg := @hregs (arr xb 0 (inC ⟨16, on, a, b, c, d, n⟩))
  repeat (first | (apply ap_pure; exact rfl; exact rfl; exact trivial; intro L; apply mo_indexArr1; exact rfl; exact rfl; omega) | (apply ap_read; exact rfl; exact rfl; exact trivial; apply mo_load; exact rfl; exact hreg _ hb) | (apply ap_read; exact rfl; exact rfl; exact trivial; apply mo_load; exact rfl; exact hreg _ hc) | (apply ap_pure; exact rfl; exact rfl; exact trivial; intro L; apply mo_max; exact rfl; exact rfl) | refine aM ?_ | refine aN ?_ | refine aD ?_ | refine aL ?_)
  refine ap_loud rfl rfl rfl rfl rfl trivial (mo_store rfl rfl rfl (Wt.row0 (k := 3 + a) (vs := thCells cv { t with pc := t.pc + 1 } av) (.there .here) (by rw [thCells_len]; omega))) ?_
  rintro v' L' ⟨rfl, rfl⟩
  refine ap_end ?_
  refine at_ent (arr xb 0 (inC ⟨16, on, a, b, c, d, n⟩) :: arr tb 0 (thCells cv (Mach.own t ⟨16, on, a, b, c, d, n⟩) av) :: F) (ent_eq (by rw [show Value.int .u64 (max (t.r b : Int) (t.r c : Int)) = num (max (t.r b) (t.r c) % 18446744073709551616) by show Value.int .u64 _ = Value.int .u64 _; rw [show max (t.r b : Int) (t.r c : Int) = ((max (t.r b) (t.r c) % 18446744073709551616 : Nat) : Int) by omega], thCells_set ha]; rfl)) ?_
  skip
  (first | refine or0 Try.func107 Try.results107 hQ ?_ | refine on0 Try.func107 Try.results107 hQ ?_)
  exact ⟨_, rfl, rfl, rfl⟩
end Go.Proofs.Ytcladnioicackaa
namespace Go.Proofs.Ytcladnioicackaa
open Go Go.PB
attribute [local irreducible] Mo Bin Eql Tr Wo Ap
section
variable {B : Hand} [Lets B] {L F : List HProp} {x : B.X}
set_option maxHeartbeats 4000000 in
theorem turns_jump_tr {tb ab ao an ac : Nat} {w cv : Value} {t : Mach.Th} {i : Mach.In} (hop : 18 ≤ i.op ∧ i.op ≤ 21) (hi : i.ok = true) (hr : ∀ j, t.r j < 18446744073709551616) (hcall : t.call < an)
  (hh : Has L (arr tb 0 (thCells cv { t with pc := t.pc + 1 } (.slice (some ⟨ab, ao, none⟩) an ac))) F) :
  Tr Try.prog B 121 [.pointer (some ⟨tb, 0, none⟩), w, .agg (inC i).toArray] L x fun v L' x' => v = .tuple #[] ∧ L' = arr tb 0 (thCells cv (Mach.own t i) (.slice (some ⟨ab, ao, none⟩) an ac)) :: F ∧ x' = x := by
 refine tr_star _ (fun h s => hh.star s) ?_
 clear hh
 refine Tr.post (R := fun v L' x' => ∃ c, v = .tuple #[] ∧ L' = c :: arr tb 0 (thCells cv (Mach.own t i) (.slice (some ⟨ab, ao, none⟩) an ac)) :: F ∧ x' = x) ?_ (by rintro v L' x' ⟨c, rfl, rfl, rfl⟩; exact ⟨_, ⟨rfl, rfl, rfl⟩, fun h s => star_drop s⟩)
 obtain ⟨op, on, a, b, c, d, n⟩ := i
 simp only [Mach.In.ok, Bool.and_eq_true, decide_eq_true_eq, Bool.or_eq_true, Bool.not_eq_true', decide_eq_false_iff_not] at hi hop
 obtain ⟨⟨⟨⟨⟨⟨⟨⟨⟨⟨_, _⟩, ha⟩, hb⟩, hc⟩, hd⟩, hon⟩, hn⟩, hj⟩, _⟩, _⟩ := hi
 have hnj : n < 1000000 := by
  rcases hj with hj | hj
  ·simp at hj; omega
  ·exact hj
 have hcv : IntKind.i64.wrap (n : Int) = (n : Int) := wrap_i64 (by omega) (by omega)
 have hops : op = 18 ∨ op = 19 ∨ op = 20 ∨ op = 21 := by omega
 have hregs : ∀ {e : HProp}, ∀ j, j < 24 → Rd (e :: arr tb 0 (thCells cv { t with pc := t.pc + 1 } (.slice (some ⟨ab, ao, none⟩) an ac)) :: F) tb (3 + j) (num (t.r j)) := fun {e} j h => rd_reg (t := { t with pc := t.pc + 1 }) (.there .here) h
 have va := hr a
 have vb := hr b
 rcases hops with rfl | rfl | rfl | rfl
 ·refine tr_of_body Try.func121 rfl Try.ntmps121 (by simp) fun um Q _ hQ => ?_
  simp only [argE, Nat.zero_add, Nat.reduceAdd]
  repeat (first | (apply wo_mo; apply mo_box; exact rfl; exact trivial) | refine we_seq ?_ | (refine wR ?_; try simp only [oS]))
  rintro v' L' ⟨xb, rfl, rfl⟩
  repeat (first | refine we_seq ?_ | (refine wR ?_; try simp only [oS]) | refine wo_nil ?_ | refine wM ?_ | refine wA ?_ | refine wN ?_ | refine wD ?_)
  refine we_ent (arr xb 0 (inC ⟨18, on, a, b, c, d, n⟩) :: arr tb 0 (thCells cv { t with pc := t.pc + 1 } (.slice (some ⟨ab, ao, none⟩) an ac)) :: F) .refl ?_
  refine we_draw (List.range' 0 11) (by kernel_rfl) ?_
  have hreg := @hregs (arr xb 0 (inC ⟨18, on, a, b, c, d, n⟩))
  have hav : Rd (arr xb 0 (inC ⟨18, on, a, b, c, d, n⟩) :: arr tb 0 (thCells cv { t with pc := t.pc + 1 } (.slice (some ⟨ab, ao, none⟩) an ac)) :: F) tb 27 (.slice (some ⟨ab, ao, none⟩) an ac) := .there (.row0 rfl)
  repeat (first | (apply ap_read; exact rfl; exact rfl; exact trivial; apply mo_load; exact rfl; exact hav) | (apply ap_pure; exact rfl; exact rfl; exact trivial; intro L; apply mo_index2; exact rfl; exact rfl; omega) | refine aM ?_ | refine aA ?_ | refine aN ?_ | refine aD ?_ | refine aL ?_ | refine ap_end ?_)
  repeat (first | refine weqlT ?_ | refine we_seq ?_ | (refine wR ?_; try simp only [oS]) | refine wo_nil ?_ | refine wM ?_ | refine wA ?_ | refine wD ?_ | refine wL ?_ | refine wT ?_ | refine we_block ?_)
  repeat (first | (apply wo_po; apply mo_conv; exact rfl; exact hcv; exact trivial) | refine wS ?_ | refine wo_nil ?_ | refine wN ?_ | refine wD ?_)
  refine at_ent (arr xb 0 (inC ⟨18, on, a, b, c, d, n⟩) :: arr tb 0 (thCells cv (Mach.own t ⟨18, on, a, b, c, d, n⟩) (.slice (some ⟨ab, ao, none⟩) an ac)) :: F) (ent_eq (by rfl)) ?_
  (first | refine or0 Try.func121 Try.results121 hQ ?_ | refine on0 Try.func121 Try.results121 hQ ?_)
  exact ⟨_, rfl, rfl, rfl⟩
 ·by_cases h0 : t.r a = t.r b
  ·have hc1 : (t.r a : Int) = (t.r b : Int) := by omega
   refine tr_of_body Try.func121 rfl Try.ntmps121 (by simp) fun um Q _ hQ => ?_
   simp only [argE, Nat.zero_add, Nat.reduceAdd]
   repeat (first | (apply wo_mo; apply mo_box; exact rfl; exact trivial) | refine we_seq ?_ | (refine wR ?_; try simp only [oS]))
   rintro v' L' ⟨xb, rfl, rfl⟩
   repeat (first | refine we_seq ?_ | (refine wR ?_; try simp only [oS]) | refine wo_nil ?_ | refine wM ?_ | refine wA ?_ | refine wN ?_ | refine wD ?_)
   refine we_ent (arr xb 0 (inC ⟨19, on, a, b, c, d, n⟩) :: arr tb 0 (thCells cv { t with pc := t.pc + 1 } (.slice (some ⟨ab, ao, none⟩) an ac)) :: F) .refl ?_
   refine we_draw (List.range' 0 11) (by kernel_rfl) ?_
   have hreg := @hregs (arr xb 0 (inC ⟨19, on, a, b, c, d, n⟩))
   have hav : Rd (arr xb 0 (inC ⟨19, on, a, b, c, d, n⟩) :: arr tb 0 (thCells cv { t with pc := t.pc + 1 } (.slice (some ⟨ab, ao, none⟩) an ac)) :: F) tb 27 (.slice (some ⟨ab, ao, none⟩) an ac) := .there (.row0 rfl)
   repeat (first | (apply ap_read; exact rfl; exact rfl; exact trivial; apply mo_load; exact rfl; exact hav) | (apply ap_pure; exact rfl; exact rfl; exact trivial; intro L; apply mo_index2; exact rfl; exact rfl; omega) | refine aM ?_ | refine aA ?_ | refine aN ?_ | refine aD ?_ | refine aL ?_ | refine ap_end ?_)
   repeat (first | refine weqlT ?_ | refine weqlF ?_ | refine we_seq ?_ | (refine wR ?_; try simp only [oS]) | refine wo_nil ?_ | refine wA ?_ | refine wD ?_ | refine wL ?_ | refine wT ?_ | refine wF ?_ | refine we_block ?_)
   refine we_draw (List.range' 0 13) (by kernel_rfl) ?_
   repeat (first | (apply ap_pure; exact rfl; exact rfl; exact trivial; intro L; apply mo_indexArr1; exact rfl; exact rfl; omega) | (apply ap_read; exact rfl; exact rfl; exact trivial; apply mo_load; exact rfl; exact hreg _ ha) | (apply ap_read; exact rfl; exact rfl; exact trivial; apply mo_load; exact rfl; exact hreg _ hb) | (apply ap_pure; exact rfl; exact rfl; exact trivial; intro L; apply mo_bin; exact rfl; exact rfl; apply bin_eqlT; exact hc1) | refine aM ?_ | refine aN ?_ | refine aD ?_ | refine aL ?_ | refine ap_end ?_)
   repeat (first | (apply wo_po; apply mo_conv; exact rfl; exact hcv; exact trivial) | refine wS ?_ | (refine wR ?_; try simp only [oS]) | refine wo_nil ?_ | refine wM ?_ | refine wN ?_ | refine wD ?_ | refine wL ?_ | refine wT ?_)
   refine at_ent (arr xb 0 (inC ⟨19, on, a, b, c, d, n⟩) :: arr tb 0 (thCells cv (Mach.own t ⟨19, on, a, b, c, d, n⟩) (.slice (some ⟨ab, ao, none⟩) an ac)) :: F) (ent_eq (by rw [show Mach.own t ⟨19, on, a, b, c, d, n⟩ = { t with pc := n } from if_pos h0]; rfl)) ?_
   (first | refine or0 Try.func121 Try.results121 hQ ?_ | refine on0 Try.func121 Try.results121 hQ ?_)
   exact ⟨_, rfl, rfl, rfl⟩
  ·have hc1 : ¬ (t.r a : Int) = (t.r b : Int) := by omega
   refine tr_of_body Try.func121 rfl Try.ntmps121 (by simp) fun um Q _ hQ => ?_
   simp only [argE, Nat.zero_add, Nat.reduceAdd]
   repeat (first | (apply wo_mo; apply mo_box; exact rfl; exact trivial) | refine we_seq ?_ | (refine wR ?_; try simp only [oS]))
   rintro v' L' ⟨xb, rfl, rfl⟩
   repeat (first | refine we_seq ?_ | (refine wR ?_; try simp only [oS]) | refine wo_nil ?_ | refine wM ?_ | refine wA ?_ | refine wN ?_ | refine wD ?_)
   refine we_ent (arr xb 0 (inC ⟨19, on, a, b, c, d, n⟩) :: arr tb 0 (thCells cv { t with pc := t.pc + 1 } (.slice (some ⟨ab, ao, none⟩) an ac)) :: F) .refl ?_
   refine we_draw (List.range' 0 11) (by kernel_rfl) ?_
   have hreg := @hregs (arr xb 0 (inC ⟨19, on, a, b, c, d, n⟩))
   have hav : Rd (arr xb 0 (inC ⟨19, on, a, b, c, d, n⟩) :: arr tb 0 (thCells cv { t with pc := t.pc + 1 } (.slice (some ⟨ab, ao, none⟩) an ac)) :: F) tb 27 (.slice (some ⟨ab, ao, none⟩) an ac) := .there (.row0 rfl)
   repeat (first | (apply ap_read; exact rfl; exact rfl; exact trivial; apply mo_load; exact rfl; exact hav) | (apply ap_pure; exact rfl; exact rfl; exact trivial; intro L; apply mo_index2; exact rfl; exact rfl; omega) | refine aM ?_ | refine aA ?_ | refine aN ?_ | refine aD ?_ | refine aL ?_ | refine ap_end ?_)
   repeat (first | refine weqlT ?_ | refine weqlF ?_ | refine we_seq ?_ | (refine wR ?_; try simp only [oS]) | refine wo_nil ?_ | refine wA ?_ | refine wD ?_ | refine wL ?_ | refine wT ?_ | refine wF ?_ | refine we_block ?_)
   refine we_draw (List.range' 0 13) (by kernel_rfl) ?_
   repeat (first | (apply ap_pure; exact rfl; exact rfl; exact trivial; intro L; apply mo_indexArr1; exact rfl; exact rfl; omega) | (apply ap_read; exact rfl; exact rfl; exact trivial; apply mo_load; exact rfl; exact hreg _ ha) | (apply ap_read; exact rfl; exact rfl; exact trivial; apply mo_load; exact rfl; exact hreg _ hb) | (apply ap_pure; exact rfl; exact rfl; exact trivial; intro L; apply mo_bin; exact rfl; exact rfl; apply bin_eqlF; exact hc1) | refine aM ?_ | refine aN ?_ | refine aD ?_ | refine aL ?_ | refine ap_end ?_)
   repeat (first | refine wF ?_ | refine we_skip ?_)
   refine at_ent (arr xb 0 (inC ⟨19, on, a, b, c, d, n⟩) :: arr tb 0 (thCells cv (Mach.own t ⟨19, on, a, b, c, d, n⟩) (.slice (some ⟨ab, ao, none⟩) an ac)) :: F) (ent_eq (by rw [show Mach.own t ⟨19, on, a, b, c, d, n⟩ = { t with pc := t.pc + 1 } from if_neg h0])) ?_
   (first | refine or0 Try.func121 Try.results121 hQ ?_ | refine on0 Try.func121 Try.results121 hQ ?_)
   exact ⟨_, rfl, rfl, rfl⟩
 ·by_cases h0 : t.r a < t.r b
  ·have hc1 : (t.r a : Int) < (t.r b : Int) := by omega
   refine tr_of_body Try.func121 rfl Try.ntmps121 (by simp) fun um Q _ hQ => ?_
   simp only [argE, Nat.zero_add, Nat.reduceAdd]
   repeat (first | (apply wo_mo; apply mo_box; exact rfl; exact trivial) | refine we_seq ?_ | (refine wR ?_; try simp only [oS]))
   rintro v' L' ⟨xb, rfl, rfl⟩
   repeat (first | refine we_seq ?_ | (refine wR ?_; try simp only [oS]) | refine wo_nil ?_ | refine wM ?_ | refine wA ?_ | refine wN ?_ | refine wD ?_)
   refine we_ent (arr xb 0 (inC ⟨20, on, a, b, c, d, n⟩) :: arr tb 0 (thCells cv { t with pc := t.pc + 1 } (.slice (some ⟨ab, ao, none⟩) an ac)) :: F) .refl ?_
   refine we_draw (List.range' 0 11) (by kernel_rfl) ?_
   have hreg := @hregs (arr xb 0 (inC ⟨20, on, a, b, c, d, n⟩))
   have hav : Rd (arr xb 0 (inC ⟨20, on, a, b, c, d, n⟩) :: arr tb 0 (thCells cv { t with pc := t.pc + 1 } (.slice (some ⟨ab, ao, none⟩) an ac)) :: F) tb 27 (.slice (some ⟨ab, ao, none⟩) an ac) := .there (.row0 rfl)
   repeat (first | (apply ap_read; exact rfl; exact rfl; exact trivial; apply mo_load; exact rfl; exact hav) | (apply ap_pure; exact rfl; exact rfl; exact trivial; intro L; apply mo_index2; exact rfl; exact rfl; omega) | refine aM ?_ | refine aA ?_ | refine aN ?_ | refine aD ?_ | refine aL ?_ | refine ap_end ?_)
   repeat (first | refine weqlT ?_ | refine weqlF ?_ | refine we_seq ?_ | (refine wR ?_; try simp only [oS]) | refine wo_nil ?_ | refine wA ?_ | refine wD ?_ | refine wL ?_ | refine wT ?_ | refine wF ?_ | refine we_block ?_)
   refine we_draw (List.range' 0 13) (by kernel_rfl) ?_
   repeat (first | (apply ap_pure; exact rfl; exact rfl; exact trivial; intro L; apply mo_indexArr1; exact rfl; exact rfl; omega) | (apply ap_read; exact rfl; exact rfl; exact trivial; apply mo_load; exact rfl; exact hreg _ ha) | (apply ap_read; exact rfl; exact rfl; exact trivial; apply mo_load; exact rfl; exact hreg _ hb) | (apply ap_pure; exact rfl; exact rfl; exact trivial; intro L; apply mo_bin; exact rfl; exact rfl; apply bin_lssT; exact hc1) | refine aM ?_ | refine aN ?_ | refine aD ?_ | refine aL ?_ | refine ap_end ?_)
   repeat (first | (apply wo_po; apply mo_conv; exact rfl; exact hcv; exact trivial) | refine wS ?_ | (refine wR ?_; try simp only [oS]) | refine wo_nil ?_ | refine wM ?_ | refine wN ?_ | refine wD ?_ | refine wL ?_ | refine wT ?_)
   refine at_ent (arr xb 0 (inC ⟨20, on, a, b, c, d, n⟩) :: arr tb 0 (thCells cv (Mach.own t ⟨20, on, a, b, c, d, n⟩) (.slice (some ⟨ab, ao, none⟩) an ac)) :: F) (ent_eq (by rw [show Mach.own t ⟨20, on, a, b, c, d, n⟩ = { t with pc := n } from if_pos h0]; rfl)) ?_
   (first | refine or0 Try.func121 Try.results121 hQ ?_ | refine on0 Try.func121 Try.results121 hQ ?_)
   exact ⟨_, rfl, rfl, rfl⟩
  ·have hc1 : ¬ (t.r a : Int) < (t.r b : Int) := by omega
   refine tr_of_body Try.func121 rfl Try.ntmps121 (by simp) fun um Q _ hQ => ?_
   simp only [argE, Nat.zero_add, Nat.reduceAdd]
   repeat (first | (apply wo_mo; apply mo_box; exact rfl; exact trivial) | refine we_seq ?_ | (refine wR ?_; try simp only [oS]))
   rintro v' L' ⟨xb, rfl, rfl⟩
   repeat (first | refine we_seq ?_ | (refine wR ?_; try simp only [oS]) | refine wo_nil ?_ | refine wM ?_ | refine wA ?_ | refine wN ?_ | refine wD ?_)
   refine we_ent (arr xb 0 (inC ⟨20, on, a, b, c, d, n⟩) :: arr tb 0 (thCells cv { t with pc := t.pc + 1 } (.slice (some ⟨ab, ao, none⟩) an ac)) :: F) .refl ?_
   refine we_draw (List.range' 0 11) (by kernel_rfl) ?_
   have hreg := @hregs (arr xb 0 (inC ⟨20, on, a, b, c, d, n⟩))
   have hav : Rd (arr xb 0 (inC ⟨20, on, a, b, c, d, n⟩) :: arr tb 0 (thCells cv { t with pc := t.pc + 1 } (.slice (some ⟨ab, ao, none⟩) an ac)) :: F) tb 27 (.slice (some ⟨ab, ao, none⟩) an ac) := .there (.row0 rfl)
   repeat (first | (apply ap_read; exact rfl; exact rfl; exact trivial; apply mo_load; exact rfl; exact hav) | (apply ap_pure; exact rfl; exact rfl; exact trivial; intro L; apply mo_index2; exact rfl; exact rfl; omega) | refine aM ?_ | refine aA ?_ | refine aN ?_ | refine aD ?_ | refine aL ?_ | refine ap_end ?_)
   repeat (first | refine weqlT ?_ | refine weqlF ?_ | refine we_seq ?_ | (refine wR ?_; try simp only [oS]) | refine wo_nil ?_ | refine wA ?_ | refine wD ?_ | refine wL ?_ | refine wT ?_ | refine wF ?_ | refine we_block ?_)
   refine we_draw (List.range' 0 13) (by kernel_rfl) ?_
   repeat (first | (apply ap_pure; exact rfl; exact rfl; exact trivial; intro L; apply mo_indexArr1; exact rfl; exact rfl; omega) | (apply ap_read; exact rfl; exact rfl; exact trivial; apply mo_load; exact rfl; exact hreg _ ha) | (apply ap_read; exact rfl; exact rfl; exact trivial; apply mo_load; exact rfl; exact hreg _ hb) | (apply ap_pure; exact rfl; exact rfl; exact trivial; intro L; apply mo_bin; exact rfl; exact rfl; apply bin_lssF; exact hc1) | refine aM ?_ | refine aN ?_ | refine aD ?_ | refine aL ?_ | refine ap_end ?_)
   repeat (first | refine wF ?_ | refine we_skip ?_)
   refine at_ent (arr xb 0 (inC ⟨20, on, a, b, c, d, n⟩) :: arr tb 0 (thCells cv (Mach.own t ⟨20, on, a, b, c, d, n⟩) (.slice (some ⟨ab, ao, none⟩) an ac)) :: F) (ent_eq (by rw [show Mach.own t ⟨20, on, a, b, c, d, n⟩ = { t with pc := t.pc + 1 } from if_neg h0])) ?_
   (first | refine or0 Try.func121 Try.results121 hQ ?_ | refine on0 Try.func121 Try.results121 hQ ?_)
   exact ⟨_, rfl, rfl, rfl⟩
 ·have hsh : (t.r a : Int).fdiv (2 ^ (min (63 : Int).toNat IntKind.u64.bits)) = (((t.r a / 2 ^ 63) % 18446744073709551616 : Nat) : Int) := u64_shr (n := 63) (by omega) va
  by_cases h0 : 9223372036854775808 ≤ t.r a
  ·have hc1 : (((t.r a / 2 ^ 63) % 18446744073709551616 : Nat) : Int) = 1 := by omega
   refine tr_of_body Try.func121 rfl Try.ntmps121 (by simp) fun um Q _ hQ => ?_
   simp only [argE, Nat.zero_add, Nat.reduceAdd]
   repeat (first | (apply wo_mo; apply mo_box; exact rfl; exact trivial) | refine we_seq ?_ | (refine wR ?_; try simp only [oS]))
   rintro v' L' ⟨xb, rfl, rfl⟩
   repeat (first | refine we_seq ?_ | (refine wR ?_; try simp only [oS]) | refine wo_nil ?_ | refine wM ?_ | refine wA ?_ | refine wN ?_ | refine wD ?_)
   refine we_ent (arr xb 0 (inC ⟨21, on, a, b, c, d, n⟩) :: arr tb 0 (thCells cv { t with pc := t.pc + 1 } (.slice (some ⟨ab, ao, none⟩) an ac)) :: F) .refl ?_
   refine we_draw (List.range' 0 11) (by kernel_rfl) ?_
   have hreg := @hregs (arr xb 0 (inC ⟨21, on, a, b, c, d, n⟩))
   have hav : Rd (arr xb 0 (inC ⟨21, on, a, b, c, d, n⟩) :: arr tb 0 (thCells cv { t with pc := t.pc + 1 } (.slice (some ⟨ab, ao, none⟩) an ac)) :: F) tb 27 (.slice (some ⟨ab, ao, none⟩) an ac) := .there (.row0 rfl)
   repeat (first | (apply ap_read; exact rfl; exact rfl; exact trivial; apply mo_load; exact rfl; exact hav) | (apply ap_pure; exact rfl; exact rfl; exact trivial; intro L; apply mo_index2; exact rfl; exact rfl; omega) | refine aM ?_ | refine aA ?_ | refine aN ?_ | refine aD ?_ | refine aL ?_ | refine ap_end ?_)
   repeat (first | refine weqlT ?_ | refine weqlF ?_ | refine we_seq ?_ | (refine wR ?_; try simp only [oS]) | refine wo_nil ?_ | refine wA ?_ | refine wD ?_ | refine wL ?_ | refine wT ?_ | refine wF ?_ | refine we_block ?_)
   refine we_draw (List.range' 0 8) (by kernel_rfl) ?_
   repeat (first | (apply ap_pure; exact rfl; exact rfl; exact trivial; intro L; apply mo_indexArr1; exact rfl; exact rfl; omega) | (apply ap_read; exact rfl; exact rfl; exact trivial; apply mo_load; exact rfl; exact hreg _ ha) | (apply ap_pure; exact rfl; exact rfl; exact trivial; intro L; apply mo_bin; exact rfl; exact rfl; apply bin_shr; omega; exact hsh) | refine aM ?_ | refine aN ?_ | refine aD ?_ | (apply ap_pure; exact rfl; exact rfl; exact gY; intro L; apply mo_bin; exact rfl; exact rfl; exact bin_eql) | refine aL ?_ | refine ap_end ?_)
   repeat (first | (apply wo_po; apply mo_conv; exact rfl; exact hcv; exact trivial) | refine wS ?_ | (refine wR ?_; try simp only [oS]) | refine wo_nil ?_ | refine wM ?_ | refine wN ?_ | refine wD ?_ | refine wL ?_ | refine wT ?_)
   refine at_ent (arr xb 0 (inC ⟨21, on, a, b, c, d, n⟩) :: arr tb 0 (thCells cv (Mach.own t ⟨21, on, a, b, c, d, n⟩) (.slice (some ⟨ab, ao, none⟩) an ac)) :: F) (ent_eq (by rw [show Mach.own t ⟨21, on, a, b, c, d, n⟩ = { t with pc := n } from if_pos h0]; rfl)) ?_
   (first | refine or0 Try.func121 Try.results121 hQ ?_ | refine on0 Try.func121 Try.results121 hQ ?_)
   exact ⟨_, rfl, rfl, rfl⟩
  ·have hc1 : ¬ (((t.r a / 2 ^ 63) % 18446744073709551616 : Nat) : Int) = 1 := by omega
   refine tr_of_body Try.func121 rfl Try.ntmps121 (by simp) fun um Q _ hQ => ?_
   simp only [argE, Nat.zero_add, Nat.reduceAdd]
   repeat (first | (apply wo_mo; apply mo_box; exact rfl; exact trivial) | refine we_seq ?_ | (refine wR ?_; try simp only [oS]))
   rintro v' L' ⟨xb, rfl, rfl⟩
   repeat (first | refine we_seq ?_ | (refine wR ?_; try simp only [oS]) | refine wo_nil ?_ | refine wM ?_ | refine wA ?_ | refine wN ?_ | refine wD ?_)
   refine we_ent (arr xb 0 (inC ⟨21, on, a, b, c, d, n⟩) :: arr tb 0 (thCells cv { t with pc := t.pc + 1 } (.slice (some ⟨ab, ao, none⟩) an ac)) :: F) .refl ?_
   refine we_draw (List.range' 0 11) (by kernel_rfl) ?_
   have hreg := @hregs (arr xb 0 (inC ⟨21, on, a, b, c, d, n⟩))
   have hav : Rd (arr xb 0 (inC ⟨21, on, a, b, c, d, n⟩) :: arr tb 0 (thCells cv { t with pc := t.pc + 1 } (.slice (some ⟨ab, ao, none⟩) an ac)) :: F) tb 27 (.slice (some ⟨ab, ao, none⟩) an ac) := .there (.row0 rfl)
   repeat (first | (apply ap_read; exact rfl; exact rfl; exact trivial; apply mo_load; exact rfl; exact hav) | (apply ap_pure; exact rfl; exact rfl; exact trivial; intro L; apply mo_index2; exact rfl; exact rfl; omega) | refine aM ?_ | refine aA ?_ | refine aN ?_ | refine aD ?_ | refine aL ?_ | refine ap_end ?_)
   repeat (first | refine weqlT ?_ | refine weqlF ?_ | refine we_seq ?_ | (refine wR ?_; try simp only [oS]) | refine wo_nil ?_ | refine wA ?_ | refine wD ?_ | refine wL ?_ | refine wT ?_ | refine wF ?_ | refine we_block ?_)
   refine we_draw (List.range' 0 8) (by kernel_rfl) ?_
   repeat (first | (apply ap_pure; exact rfl; exact rfl; exact trivial; intro L; apply mo_indexArr1; exact rfl; exact rfl; omega) | (apply ap_read; exact rfl; exact rfl; exact trivial; apply mo_load; exact rfl; exact hreg _ ha) | (apply ap_pure; exact rfl; exact rfl; exact trivial; intro L; apply mo_bin; exact rfl; exact rfl; apply bin_shr; omega; exact hsh) | refine aM ?_ | refine aN ?_ | refine aD ?_ | (apply ap_pure; exact rfl; exact rfl; exact gY; intro L; apply mo_bin; exact rfl; exact rfl; exact bin_eql) | refine aL ?_ | refine ap_end ?_)
   repeat (first | refine wF ?_ | refine we_skip ?_)
   refine at_ent (arr xb 0 (inC ⟨21, on, a, b, c, d, n⟩) :: arr tb 0 (thCells cv (Mach.own t ⟨21, on, a, b, c, d, n⟩) (.slice (some ⟨ab, ao, none⟩) an ac)) :: F) (ent_eq (by rw [show Mach.own t ⟨21, on, a, b, c, d, n⟩ = { t with pc := t.pc + 1 } from if_neg h0])) ?_
   (first | refine or0 Try.func121 Try.results121 hQ ?_ | refine on0 Try.func121 Try.results121 hQ ?_)
   exact ⟨_, rfl, rfl, rfl⟩
end
section
variable {B : Hand} [Lets B] {L F : List HProp} {x : B.X}
set_option maxHeartbeats 4000000 in
theorem turns_tell_tr {tb ab ao an ac : Nat} {w cv tv : Value} {cs : List Value} {told : List Nat} {t : Mach.Th} {i : Mach.In} (hop : i.op = 22) (hi : i.ok = true) (hr : ∀ j, t.r j < 18446744073709551616) (hcall : t.call < an) (hcs : cs[2 * t.call + 1]? = some tv) (hl : told.length < 1000000000) :
  Tr Try.prog B 121 [.pointer (some ⟨tb, 0, none⟩), w, .agg (inC i).toArray] (arr tb 0 (thCells cv { t with pc := t.pc + 1 } (.slice (some ⟨ab, ao, none⟩) an ac)) :: vec 2 (.slice (some ⟨ab, ao, none⟩) an ac) cs :: vec 1 tv (told.map num) :: F) x
   fun v L' x' => ∃ tv', v = .tuple #[] ∧ L' = arr tb 0 (thCells cv { t with pc := t.pc + 1 } (.slice (some ⟨ab, ao, none⟩) an ac)) :: vec 2 (.slice (some ⟨ab, ao, none⟩) an ac) (cs.set (2 * t.call + 1) tv') :: vec 1 tv' ((told ++ [t.r i.a]).map num) :: F ∧ x' = x := by
 refine tr_pure (of_has (.there (.there .here)) (vec_shape (by omega))) ?_
 rintro ⟨ta, tn, tc, rfl, htn, _, hta, hta2⟩
 have htn' : tn = told.length := by simpa using htn.symm
 subst htn'
 refine Tr.post (R := fun v L' x' => ∃ tv', v = .tuple #[] ∧ x' = x ∧ ∀ h, Star L' h → Star (arr tb 0 (thCells cv { t with pc := t.pc + 1 } (.slice (some ⟨ab, ao, none⟩) an ac)) :: vec 2 (.slice (some ⟨ab, ao, none⟩) an ac) (cs.set (2 * t.call + 1) tv') :: vec 1 tv' ((told ++ [t.r i.a]).map num) :: F) h) ?_ (by rintro v L' x' ⟨tv', rfl, rfl, hs⟩; exact ⟨_, ⟨tv', rfl, rfl, rfl⟩, hs⟩)
 obtain ⟨op, on, a, b, c, d, n⟩ := i
 simp only [Mach.In.ok, Bool.and_eq_true, decide_eq_true_eq, Bool.or_eq_true, Bool.not_eq_true', decide_eq_false_iff_not] at hi hop
 obtain ⟨⟨⟨⟨⟨⟨⟨⟨⟨⟨_, _⟩, ha⟩, hb⟩, hc⟩, hd⟩, hon⟩, hn⟩, hj⟩, _⟩, _⟩ := hi
 subst hop
 have hcsl : 2 * t.call + 1 < cs.length := (List.getElem?_eq_some_iff.1 hcs).1
 obtain ⟨G, hG⟩ : ∃ G, G = vec 2 (.slice (some ⟨ab, ao, none⟩) an ac) cs :: vec 1 (.slice ta told.length tc) (told.map num) :: F := ⟨_, rfl⟩
 rw [← hG]
 have hregs : ∀ {e : HProp}, ∀ j, j < 24 → Rd (e :: arr tb 0 (thCells cv { t with pc := t.pc + 1 } (.slice (some ⟨ab, ao, none⟩) an ac)) :: G) tb (3 + j) (num (t.r j)) := fun {e} j h => rd_reg (t := { t with pc := t.pc + 1 }) (.there .here) h
 have htold : ∀ {e e' : HProp}, Rd (e :: e' :: G) ab (ao + 2 * t.call + 1) (.slice ta told.length tc) := fun {e e'} => by
  rw [hG, Nat.add_assoc]
  exact rd_vec (.there (.there .here)) hcs
 refine tr_of_body Try.func121 rfl Try.ntmps121 (by simp) fun um Q _ hQ => ?_
 simp only [argE, Nat.zero_add, Nat.reduceAdd]
 repeat (first | (apply wo_mo; apply mo_box; exact rfl; exact trivial) | refine we_seq ?_ | (refine wR ?_; try simp only [oS]))
 rintro v' L' ⟨xb, rfl, rfl⟩
 repeat (first | refine we_seq ?_ | (refine wR ?_; try simp only [oS]) | refine wo_nil ?_ | refine wM ?_ | refine wA ?_ | refine wN ?_ | refine wD ?_)
 refine we_ent (arr xb 0 (inC ⟨22, on, a, b, c, d, n⟩) :: arr tb 0 (thCells cv { t with pc := t.pc + 1 } (.slice (some ⟨ab, ao, none⟩) an ac)) :: G) .refl ?_
 refine we_draw (List.range' 0 11) (by kernel_rfl) ?_
 have hreg := @hregs (arr xb 0 (inC ⟨22, on, a, b, c, d, n⟩))
 have hav : Rd (arr xb 0 (inC ⟨22, on, a, b, c, d, n⟩) :: arr tb 0 (thCells cv { t with pc := t.pc + 1 } (.slice (some ⟨ab, ao, none⟩) an ac)) :: G) tb 27 (.slice (some ⟨ab, ao, none⟩) an ac) := .there (.row0 rfl)
 repeat (first | (apply ap_read; exact rfl; exact rfl; exact trivial; apply mo_load; exact rfl; exact hav) | (apply ap_pure; exact rfl; exact rfl; exact trivial; intro L; apply mo_index2; exact rfl; exact rfl; omega) | refine aM ?_ | refine aA ?_ | refine aN ?_ | refine aD ?_ | refine aL ?_ | refine ap_end ?_)
 repeat (first | refine weqlT ?_ | refine weqlF ?_ | refine we_seq ?_ | (refine wR ?_; try simp only [oS]) | refine wo_nil ?_ | refine wA ?_ | refine wD ?_ | refine wL ?_ | refine wT ?_ | refine wF ?_ | refine we_block ?_)
 refine we_draw (List.range' 0 14) (by kernel_rfl) ?_
 repeat (first | (apply ap_pure; exact rfl; exact rfl; exact trivial; intro L; apply mo_indexArr1; exact rfl; exact rfl; omega) | (apply ap_read; exact rfl; exact rfl; exact trivial; apply mo_load; exact rfl; exact hreg _ ha) | (apply ap_read; exact rfl; exact rfl; exact trivial; apply mo_load; exact rfl; exact htold) | refine aM ?_ | refine aN ?_ | refine aD ?_ | refine aL ?_)
 refine ap_loudR rfl rfl rfl rfl trivial (mo_buildSlice (sz := 1) (vs := [num (t.r a)]) rfl (.cons rfl .nil) rfl (by intro v hv; cases (List.mem_singleton.1 hv); exact rfl) (by omega)) ?_ ?_
 ·rintro v L' ⟨sb, rfl, rfl⟩ p hp
  replace hp := (List.mem_filter.1 hp).1
  simp only [List.mem_cons, List.not_mem_nil, or_false] at hp
  rcases hp with rfl | rfl | rfl | rfl | rfl | rfl | rfl | rfl | rfl | rfl <;> first | exact .inl rfl | exact .inr ⟨_, rfl, trivial, mo_load rfl (Rd.there (hreg _ ha))⟩ | exact .inr ⟨_, rfl, trivial, mo_load rfl (Rd.there (Rd.row0 rfl))⟩ | exact .inr ⟨_, rfl, trivial, mo_load rfl (Rd.there htold)⟩
 rintro v' L' ⟨sb, rfl, rfl⟩
 subst hG
 refine ap_loud rfl rfl rfl rfl rfl trivial (mo_append (sz := 1) (new := [num (t.r a)]) rfl rfl rfl rfl (.there (.there (.there (.there .here)))) rfl (.inr ⟨_, _, rfl, Rds.all .here⟩) (by intro v hv; cases (List.mem_singleton.1 hv); exact rfl) (by simp only [sliceLen]; omega)) ?_
 rintro v' L' rfl
 refine ap_know (of_has .here (vec_shape (by omega))) ?_
 rintro ⟨qa, ql, qc, rfl, _⟩
 repeat (first | refine aN ?_)
 have hw := fun {X1 X2 X3 X4 : HProp} {G : List HProp} => wt_vec (L := X1 :: X2 :: X3 :: X4 :: vec 2 (.slice (some ⟨ab, ao, none⟩) an ac) cs :: G) (v := .slice qa ql qc) (.there (.there (.there (.there .here)))) hcsl
 rw [← Nat.add_assoc] at hw
 refine ap_loud rfl rfl rfl rfl rfl trivial (mo_store rfl rfl rfl hw) ?_
 rintro v' L' ⟨rfl, rfl⟩
 refine ap_end ?_
 skip
 (first | refine or0 Try.func121 Try.results121 hQ ?_ | refine on0 Try.func121 Try.results121 hQ ?_)
 refine ⟨.slice qa ql qc, rfl, rfl, fun h st => ?_⟩
 rw [show (told ++ [t.r a]).map num = told.map num ++ [num (t.r a)] by simp]
 refine Ent.star ?_ st
 exact .take (.there (.there (.there (.there .here)))) (.take .here (.take .here (.drop (.drop .refl))))
end
section
variable {B : Hand} [Lets B] {L F G : List HProp} {x : B.X}
structure CW where
 a : Option Addr
 c : Nat
 k : Nat → Option Addr × Nat
 d : Nat → Option Addr × Nat
def CW.v (w : CW) (n : Nat) : Value := .slice w.a n w.c
def codeC (w : CW) (cs : List Mach.Cl) : HProp := fun h => ∀ i cl, cs[i]? = some cl → ∃ cb co, w.a = some ⟨cb, co, none⟩ ∧
 h.can ⟨cb, co + 2 * i, none⟩ (.slice (w.k i).1 cl.code.length (w.k i).2) ∧ h.can ⟨cb, co + 2 * i + 1, none⟩ (.slice (w.d i).1 cl.data.length (w.d i).2) ∧
 (∀ j y, cl.code[j]? = some y → ∃ kb ko, (w.k i).1 = some ⟨kb, ko, none⟩ ∧ ∀ m v, (inC y)[m]? = some v → h.can ⟨kb, ko + 7 * j + m, none⟩ v) ∧
 (∀ j v, cl.data[j]? = some v → ∃ db dq, (w.d i).1 = some ⟨db, dq, none⟩ ∧ h.can ⟨db, dq + j, none⟩ (num v))
section
variable {w : CW} {cs : List Mach.Cl} {cl : Mach.Cl} {i : Nat}
theorem can_mono {h h1 h2 : Hp} (s : Split h h1 h2) {a : Addr} {v : Value} (c : h1.can a v) : h.can a v := ⟨c.1, c.2.elim (fun e => .inl (s.o1 _ _ _ e)) (fun e => .inr (s.r1 _ _ _ e))⟩
def Obs (L : List HProp) (c : HProp) : Prop := ∀ h, Star L h → c h
theorem code_mono {h h1 h2 : Hp} (s : Split h h1 h2) (c : codeC w cs h1) : codeC w cs h := by
 intro i cl hi
 obtain ⟨cb, co, q1, q2, q3, q4, q5⟩ := c i cl hi
 refine ⟨cb, co, q1, can_mono s q2, can_mono s q3, fun j y hj => ?_, fun j v hj => ?_⟩
 ·obtain ⟨kb, ko, q6, q7⟩ := q4 j y hj
  exact ⟨kb, ko, q6, fun m v hm => can_mono s (q7 m v hm)⟩
 ·obtain ⟨db, dq, q6, q7⟩ := q5 j v hj
  exact ⟨db, dq, q6, can_mono s q7⟩
theorem Obs.there {d : HProp} (o : Obs L (codeC w cs)) : Obs (d :: L) (codeC w cs) := fun h s => by
 obtain ⟨h1, h2, s1, _, hL⟩ := s
 exact code_mono s1.swap (o h2 hL)
theorem code_at (hh : Obs L (codeC w cs)) (hi : cs[i]? = some cl) : ∀ h, Star L h → ∃ cb co, w.a = some ⟨cb, co, none⟩ := fun h s => by
 obtain ⟨cb, co, h1, _⟩ := hh h s i cl hi
 exact ⟨cb, co, h1⟩
theorem rd_code {cb co : Nat} (hh : Obs L (codeC w cs)) (hi : cs[i]? = some cl) (ha : w.a = some ⟨cb, co, none⟩) :
  Rd L cb (co + 2 * i) (.slice (w.k i).1 cl.code.length (w.k i).2) ∧ Rd L cb (co + 2 * i + 1) (.slice (w.d i).1 cl.data.length (w.d i).2) := by
 constructor
 ·intro h s
  obtain ⟨cb', co', h1, h2, h3, h4⟩ := hh h s i cl hi
  rw [ha] at h1; cases h1; exact h2
 ·intro h s
  obtain ⟨cb', co', h1, h2, h3, h4⟩ := hh h s i cl hi
  rw [ha] at h1; cases h1; exact h3
theorem rd_instr {j : Nat} {y : Mach.In} (hh : Obs L (codeC w cs)) (hi : cs[i]? = some cl) (hj : cl.code[j]? = some y) : (∀ h, Star L h → ∃ kb ko, (w.k i).1 = some ⟨kb, ko, none⟩) ∧ ∀ kb ko, (w.k i).1 = some ⟨kb, ko, none⟩ → Rds L kb (ko + 7 * j) (inC y) := by
 constructor
 ·intro h s
  obtain ⟨cb', co', h1, h2, h3, h4, h5⟩ := hh h s i cl hi
  obtain ⟨kb, ko, h6, _⟩ := h4 j y hj
  exact ⟨kb, ko, h6⟩
 ·intro kb ko hk m v hm
  intro h s
  obtain ⟨cb', co', h1, h2, h3, h4, h5⟩ := hh h s i cl hi
  obtain ⟨kb', ko', h6, h7⟩ := h4 j y hj
  rw [hk] at h6; cases h6; exact h7 m v hm
theorem rd_data {j v : Nat} (hh : Obs L (codeC w cs)) (hi : cs[i]? = some cl) (hj : cl.data[j]? = some v) : (∀ h, Star L h → ∃ db dq, (w.d i).1 = some ⟨db, dq, none⟩) ∧ ∀ db dq, (w.d i).1 = some ⟨db, dq, none⟩ → Rd L db (dq + j) (num v) := by
 constructor
 ·intro h s
  obtain ⟨cb', co', h1, h2, h3, h4, h5⟩ := hh h s i cl hi
  obtain ⟨kb, ko, h6, _⟩ := h5 j v hj
  exact ⟨kb, ko, h6⟩
 ·intro kb ko hk
  intro h s
  obtain ⟨cb', co', h1, h2, h3, h4, h5⟩ := hh h s i cl hi
  obtain ⟨kb', ko', h6, h7⟩ := h5 j v hj
  rw [hk] at h6; cases h6; exact h7
end
def ansV (y : Bool × Value × List Nat) : List Value := [.bool y.1, y.2.1]
def ansT (y : Bool × Value × List Nat) : HProp := vec 1 y.2.1 (y.2.2.map num)
def ansOf (y : Bool × Value × List Nat) : Bool × List Nat := (y.1, y.2.2)
def thB (tb : Nat) (cv : Value) (t : Mach.Th) (y : Value × List (Bool × Value × List Nat)) : List HProp := [arr tb 0 (thCells cv t y.1), vec 2 y.1 (y.2.map ansV).flatten, all (y.2.map ansT)]
def thC (tb : Nat) (cv : Value) (t : Mach.Th) : HProp := fun h => ∃ y : Value × List (Bool × Value × List Nat), y.2.map ansOf = t.ans ∧ (∀ j, t.r j < 18446744073709551616) ∧ all (thB tb cv t y) h
theorem own_calls {t : Mach.Th} {i : Mach.In} : (Mach.own t i).calls = t.calls ∧ (Mach.own t i).call = t.call ∧ (Mach.own t i).over = t.over := by
 unfold Mach.own Mach.Th.put Mach.Th.tell
 dsimp only
 split <;> (try split) <;> exact ⟨rfl, rfl, rfl⟩
theorem own_regs {t : Mach.Th} {i : Mach.In} (h : ∀ j, t.r j < 18446744073709551616) : ∀ j, (Mach.own t i).r j < 18446744073709551616 := by
 intro j
 have hu : ∀ v, upd t.r i.a (v % 18446744073709551616) j < 18446744073709551616 := fun v => by
  unfold upd; split
  ·exact Nat.mod_lt _ (by decide)
  ·exact h j
 unfold Mach.own Mach.Th.put Mach.Th.tell
 dsimp only
 split <;> (try split) <;> first | exact hu _ | exact h j
theorem own_ans {t : Mach.Th} {i : Mach.In} (h : i.op ≠ 22) : (Mach.own t i).ans = t.ans := by
 unfold Mach.own Mach.Th.put Mach.Th.tell
 dsimp only
 split <;> (try split) <;> first | rfl | exact absurd (by assumption) h
set_option maxHeartbeats 4000000 in
theorem own_look_tr {tb : Nat} {w av : Value} {cw : CW} {t : Mach.Th} {i : Mach.In} (hop : i.op = 17) (hi : i.ok = true) (hr : ∀ j, t.r j < 18446744073709551616) (hpc : t.pc < 1000000) (hlt : t.call < t.calls.length) (hd : (t.calls.all Mach.Cl.ok) = true) (hl : t.calls.length < 1000000)
  (hh : Has L (arr tb 0 (thCells (cw.v t.calls.length) t av)) F) (hcode : Obs F (codeC cw t.calls)) :
  Tr Try.prog B 107 [.pointer (some ⟨tb, 0, none⟩), w, .agg (inC i).toArray] L x fun v L' x' => v = .tuple #[] ∧ L' = arr tb 0 (thCells (cw.v t.calls.length) (Mach.own t i) av) :: F ∧ x' = x := by
 refine tr_star _ (fun h s => hh.star s) ?_
 clear hh
 obtain ⟨cl, hcl⟩ : ∃ cl, t.calls[t.call]? = some cl := ⟨t.calls[t.call], by simp [hlt]⟩
 have hclok := List.all_eq_true.1 hd cl (List.mem_of_getElem? hcl)
 simp only [Mach.Cl.ok, Bool.and_eq_true, decide_eq_true_eq] at hclok
 refine tr_pure (code_at (.there hcode) hcl) ?_
 rintro ⟨cb, co, hca⟩
 obtain ⟨q1, q2⟩ := rd_code hcode hcl hca
 have hcv : cw.v t.calls.length = .slice (some ⟨cb, co, none⟩) t.calls.length cw.c := by unfold CW.v; rw [hca]
 have hdat : t.cl.data = cl.data := by unfold Mach.Th.cl; rw [List.getD_eq_getElem?_getD, hcl]; rfl
 obtain ⟨op, on, a, b, c, d, n⟩ := i
 simp only [Mach.In.ok, Bool.and_eq_true, decide_eq_true_eq, Bool.or_eq_true, Bool.not_eq_true', decide_eq_false_iff_not] at hi hop
 obtain ⟨⟨⟨⟨⟨⟨⟨⟨⟨⟨_, _⟩, ha⟩, hb⟩, hc⟩, hd⟩, hon⟩, hn⟩, _⟩, hab⟩, hsh⟩ := hi
 subst hop
 have hab : ¬ a = b := hab.resolve_left (by simp)
 have vb := hr b
 obtain ⟨q, hq⟩ : ∃ q, (t.r b + n) % 18446744073709551616 = q := ⟨_, rfl⟩
 have hadd : IntKind.u64.wrap ((t.r b : Int) + (n : Int)) = (q : Int) := by rw [← hq]; exact u64_add
 have hlen : IntKind.u64.wrap (cl.data.length : Int) = (cl.data.length : Int) := wrap_u64 (by omega) (by omega)
 have hown : Mach.own t ⟨17, on, a, b, c, d, n⟩ = { t with pc := t.pc + 1, r := upd t.r a (cl.data.getD q 0 % 18446744073709551616) } := by
  show Mach.Th.put _ _ _ = _
  unfold Mach.Th.put
  show { t with pc := t.pc + 1, r := upd t.r a (({ t with pc := t.pc + 1 } : Mach.Th).cl.data.getD ((t.r b + n) % 18446744073709551616) 0 % 18446744073709551616) } = _
  rw [hq, show ({ t with pc := t.pc + 1 } : Mach.Th).cl = t.cl from rfl, hdat]
 refine Tr.post (R := fun v L' x' => ∃ e, v = .tuple #[] ∧ L' = e :: arr tb 0 (thCells (cw.v t.calls.length) (Mach.own t ⟨17, on, a, b, c, d, n⟩) av) :: F ∧ x' = x) ?_ (by rintro v L' x' ⟨c, rfl, rfl, rfl⟩; exact ⟨_, ⟨rfl, rfl, rfl⟩, fun h s => star_drop s⟩)
 rw [hown, hcv]
 obtain ⟨cv, hcv'⟩ : ∃ cv, cv = Value.slice (some ⟨cb, co, none⟩) t.calls.length cw.c := ⟨_, rfl⟩
 have hregs : ∀ {t' : Mach.Th}, ∀ j, j < 24 → Rd (arr tb 0 (thCells (.slice (some ⟨cb, co, none⟩) t.calls.length cw.c) t' av) :: F) tb (3 + j) (num (t'.r j)) := fun {t'} j h => rd_reg .here h
 refine tr_of_body Try.func107 rfl Try.ntmps107 (by simp) fun um Q _ hQ => ?_
 simp only [argE, Nat.zero_add, Nat.reduceAdd]
 repeat (first | (apply wo_mo; apply mo_box; exact rfl; exact trivial) | refine we_seq ?_ | (refine wR ?_; try simp only [oS]))
 rintro v' L' ⟨xb, rfl, rfl⟩
 repeat (first | refine wS ?_ | refine weqlT ?_ | refine weqlF ?_ | refine we_seq ?_ | (refine wR ?_; try simp only [oS]) | refine wo_nil ?_ | refine wM ?_ | refine wA ?_ | refine wN ?_ | refine wD ?_ | refine wL ?_ | refine wadd ?_ | refine wT ?_ | refine wF ?_ | refine we_block ?_)
 refine we_ent (arr xb 0 (inC ⟨17, on, a, b, c, d, n⟩) :: arr tb 0 (thCells (.slice (some ⟨cb, co, none⟩) t.calls.length cw.c) { t with pc := t.pc + 1 } av) :: F) .refl ?_
 refine we_draw (List.range' 0 12) (by kernel_rfl) ?_
 repeat (first | (apply ap_pure; exact rfl; exact rfl; exact trivial; intro L; apply mo_index2; exact rfl; exact rfl; omega) | (apply ap_read; exact rfl; exact rfl; exact trivial; apply mo_load; exact rfl; exact .there (.there q2)) | refine aM ?_ | refine aA ?_ | refine aN ?_ | refine aD ?_ | refine aL ?_ | refine ap_end ?_)
 repeat (first | refine we_seq ?_)
 refine we_draw (List.range' 0 6) (by kernel_rfl) ?_
 have hreg : ∀ j, j < 24 → Rd (arr xb 0 (inC ⟨17, on, a, b, c, d, n⟩) :: arr tb 0 (thCells (.slice (some ⟨cb, co, none⟩) t.calls.length cw.c) { t with pc := t.pc + 1 } av) :: F) tb (3 + j) (num (t.r j)) := fun j h => .there (hregs j h)
 repeat (first | (apply ap_pure; exact rfl; exact rfl; exact trivial; intro L; apply mo_indexArr1; exact rfl; exact rfl; omega) | refine aM ?_ | refine aN ?_ | refine aD ?_ | refine aL ?_)
 refine ap_loud rfl rfl rfl rfl rfl trivial (mo_store rfl rfl rfl (Wt.row0 (k := 3 + a) (vs := thCells (.slice (some ⟨cb, co, none⟩) t.calls.length cw.c) { t with pc := t.pc + 1 } av) (.there .here) (by rw [thCells_len]; omega))) ?_
 rintro v' L' ⟨rfl, rfl⟩
 refine ap_end ?_
 refine at_ent (arr xb 0 (inC ⟨17, on, a, b, c, d, n⟩) :: arr tb 0 (thCells (.slice (some ⟨cb, co, none⟩) t.calls.length cw.c) { t with pc := t.pc + 1, r := upd t.r a 0 } av) :: F) (ent_eq (by rw [show Value.int .u64 0 = num 0 from rfl, thCells_set ha])) ?_
 have hreg2 : ∀ j, j < 24 → Rd (arr xb 0 (inC ⟨17, on, a, b, c, d, n⟩) :: arr tb 0 (thCells (.slice (some ⟨cb, co, none⟩) t.calls.length cw.c) { t with pc := t.pc + 1, r := upd t.r a 0 } av) :: F) tb (3 + j) (num (upd t.r a 0 j)) := fun j h => .there (hregs (t' := { t with pc := t.pc + 1, r := upd t.r a 0 }) j h)
 clear hreg
 have hrb : Rd (arr xb 0 (inC ⟨17, on, a, b, c, d, n⟩) :: arr tb 0 (thCells (.slice (some ⟨cb, co, none⟩) t.calls.length cw.c) { t with pc := t.pc + 1, r := upd t.r a 0 } av) :: F) tb (3 + b) (num (t.r b)) := by
  have := hreg2 b hb
  rwa [upd_other (fun h => hab h.symm)] at this
 repeat (first | refine we_seq ?_)
 by_cases hin : q < cl.data.length
 ·have hin' : (q : Int) < (cl.data.length : Int) := by omega
  refine we_draw (List.range' 0 13) (by kernel_rfl) ?_
  repeat (first | (apply ap_pure; exact rfl; exact rfl; exact trivial; intro L; apply mo_indexArr1; exact rfl; exact rfl; omega) | (apply ap_read; exact rfl; exact rfl; exact trivial; apply mo_load; exact rfl; exact hrb) | (apply ap_pure; exact rfl; exact rfl; exact trivial; intro L; apply mo_bin; exact rfl; exact rfl; apply bin_add; exact hadd) | (apply ap_pure; exact rfl; exact rfl; exact trivial; intro L; apply mo_conv; exact rfl; exact hlen) | (apply ap_pure; exact rfl; exact rfl; exact trivial; intro L; apply mo_bin; exact rfl; exact rfl; apply bin_lssT; exact hin') | refine aM ?_ | refine aN ?_ | refine aD ?_ | (apply ap_pure; exact rfl; exact rfl; exact gY; intro L; apply mo_len; exact rfl) | refine aL ?_ | refine ap_end ?_)
  repeat (first | refine wT ?_)
  obtain ⟨v, hv⟩ : ∃ v, cl.data[q]? = some v := ⟨cl.data[q], by simp [hin]⟩
  have hvlt : v < 18446744073709551616 := by
   have := List.all_eq_true.1 hclok.1.1.2 v (List.mem_of_getElem? hv)
   simpa using this
  have huu : upd (upd t.r a 0) a v = upd t.r a v := by funext j; unfold upd; split <;> rfl
  obtain ⟨q3, q4⟩ := rd_data hcode hcl hv
  refine we_pure (fun h st => q3 h (star_drop (star_drop st))) ?_
  rintro ⟨db, dq, hdb⟩
  have q5 := q4 db dq hdb
  rw [hdb]
  refine we_draw (List.range' 0 18) (by kernel_rfl) ?_
  repeat (first | (apply ap_pure; exact rfl; exact rfl; exact trivial; intro L; apply mo_indexArr1; exact rfl; exact rfl; omega) | (apply ap_read; exact rfl; exact rfl; exact trivial; apply mo_load; exact rfl; exact hrb) | (apply ap_pure; exact rfl; exact rfl; exact trivial; intro L; apply mo_bin; exact rfl; exact rfl; apply bin_add; exact hadd) | (apply ap_pure; exact rfl; exact rfl; exact trivial; intro L; apply mo_index1; exact rfl; exact rfl; exact hin) | (apply ap_read; exact rfl; exact rfl; exact trivial; apply mo_load; exact rfl; exact .there (.there q5)) | refine aM ?_ | refine aN ?_ | refine aD ?_ | refine aL ?_)
  refine ap_loud rfl rfl rfl rfl rfl trivial (mo_store rfl rfl rfl (Wt.row0 (k := 3 + a) (vs := thCells (.slice (some ⟨cb, co, none⟩) t.calls.length cw.c) { t with pc := t.pc + 1, r := upd t.r a 0 } av) (.there .here) (by rw [thCells_len]; omega))) ?_
  rintro v' L' ⟨rfl, rfl⟩
  refine ap_end ?_
  refine at_ent (arr xb 0 (inC ⟨17, on, a, b, c, d, n⟩) :: arr tb 0 (thCells (.slice (some ⟨cb, co, none⟩) t.calls.length cw.c) { t with pc := t.pc + 1, r := upd t.r a (cl.data.getD q 0 % 18446744073709551616) } av) :: F) (ent_eq (by
   rw [thCells_set ha, List.getD_eq_getElem?_getD, hv, Option.getD_some, Nat.mod_eq_of_lt hvlt]
   dsimp only
   rw [huu])) ?_
  skip
  (first | refine or0 Try.func107 Try.results107 hQ ?_ | refine on0 Try.func107 Try.results107 hQ ?_)
  exact ⟨_, rfl, rfl, rfl⟩
 ·have hin' : ¬ (q : Int) < (cl.data.length : Int) := by omega
  refine we_draw (List.range' 0 13) (by kernel_rfl) ?_
  repeat (first | (apply ap_pure; exact rfl; exact rfl; exact trivial; intro L; apply mo_indexArr1; exact rfl; exact rfl; omega) | (apply ap_read; exact rfl; exact rfl; exact trivial; apply mo_load; exact rfl; exact hrb) | (apply ap_pure; exact rfl; exact rfl; exact trivial; intro L; apply mo_bin; exact rfl; exact rfl; apply bin_add; exact hadd) | (apply ap_pure; exact rfl; exact rfl; exact trivial; intro L; apply mo_conv; exact rfl; exact hlen) | (apply ap_pure; exact rfl; exact rfl; exact trivial; intro L; apply mo_bin; exact rfl; exact rfl; apply bin_lssF; exact hin') | refine aM ?_ | refine aN ?_ | refine aD ?_ | (apply ap_pure; exact rfl; exact rfl; exact gY; intro L; apply mo_len; exact rfl) | refine aL ?_ | refine ap_end ?_)
  repeat (first | refine wF ?_ | refine we_skip ?_)
  refine at_ent (arr xb 0 (inC ⟨17, on, a, b, c, d, n⟩) :: arr tb 0 (thCells (.slice (some ⟨cb, co, none⟩) t.calls.length cw.c) { t with pc := t.pc + 1, r := upd t.r a (cl.data.getD q 0 % 18446744073709551616) } av) :: F) (ent_eq (by
   rw [List.getD_eq_getElem?_getD, List.getElem?_eq_none (by omega)]; rfl)) ?_
  (first | refine or0 Try.func107 Try.results107 hQ ?_ | refine on0 Try.func107 Try.results107 hQ ?_)
  exact ⟨_, rfl, rfl, rfl⟩
end
end Go.Proofs.Ytcladnioicackaa
