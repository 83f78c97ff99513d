/- The symbolic executor: the program's tables, by name. -/
import Derived.Test.YtejebgdikoehmaaGreatDoorToE
import Derived.Test.YtejebgdikoehmaaGreatDoorProg
import Derived.KernelRfl
namespace Go.Proofs.YtejebgdikoehmaaGreatDoor
open Go
set_option linter.unusedVariables false
set_option maxRecDepth 100000
/-- What a type is, by its own row and that of what it is at bottom. -/
def tiC (a u : TypeInfo) : TI := ⟨TD.of u.desc, a.size, ((a.zero.map (·.cells)).getD #[]).toList, a.bytes⟩
def isAggV : Value → Bool
  | .agg _ => true
  | _ => false
def zeroOk (a u : TypeInfo) : Bool := match a.zero with
  | some z => (z.cells.toList.all plain1 && Nat.beq z.cells.toList.length a.size) && (isAggD (TD.of u.desc) == isAggV z)
  | none => false
/-- All of a tree. -/
def Tr.All {α : Type} (p : Nat → α → Prop) : Tr α → Nat → Nat → Prop
  | .nil, _, _ => True
  | .node l v r, a, b => (match v with | some x => p b x | none => True) ∧ l.All p (2 * a) (a + b) ∧ r.All p (2 * a) (2 * a + b)
theorem Tr.All.get {α : Type} {p : Nat → α → Prop} : ∀ {t : Tr α} {a b m : Nat} {v : α}, t.All p a b → t.get m = some v → p (a * m + b) v
  | .nil, a, b, m, v, h, hg => by simp [Tr.get] at hg
  | .node l x r, a, b, m, v, h, hg => by
    obtain ⟨h1, h2, h3⟩ := h
    simp only [Tr.get, nbeq] at hg
    by_cases h0 : m = 0
    · rw [decide_eq_true h0, cond_true] at hg
      rw [h0, Nat.mul_zero, Nat.zero_add]
      subst hg
      exact h1
    · rw [decide_eq_false h0, cond_false] at hg
      by_cases hq : Nat.mod m 2 = 1
      · rw [decide_eq_true hq, cond_true] at hg
        have := Tr.All.get h2 hg
        have e : 2 * a * Nat.div m 2 + (a + b) = a * m + b := by
          have hq : m % 2 = 1 := hq
          have : m = 2 * (m / 2) + 1 := by omega
          show 2 * a * (m / 2) + (a + b) = a * m + b
          generalize m / 2 = q at this ⊢
          subst this
          rw [Nat.mul_add, Nat.mul_one, Nat.mul_comm 2 a, Nat.mul_assoc]
          omega
        rw [e] at this
        exact this
      · rw [decide_eq_false hq, cond_false] at hg
        have := Tr.All.get h3 hg
        have e : 2 * a * Nat.sub (Nat.div m 2) 1 + (2 * a + b) = a * m + b := by
          have hq : ¬ m % 2 = 1 := hq
          have : m = 2 * (m / 2 - 1) + 2 := by omega
          show 2 * a * (m / 2 - 1) + (2 * a + b) = a * m + b
          generalize m / 2 - 1 = q at this ⊢
          subst this
          rw [Nat.mul_add, Nat.mul_comm 2 a, Nat.mul_assoc]
          omega
        rw [e] at this
        exact this
/-- A row is the program's. -/
structure TyRow (t : Nat) (a u : TypeInfo) : Prop where
  info : Tryz.prog.info? t = some a
  und : Tryz.prog.underlying t = some u.desc
  zero : zeroOk a u = true
theorem TyRow.ok {t : Nat} {a u : TypeInfo} (h : TyRow t a u) : ∃ info d, TOk1 Tryz.prog t (tiC a u) info d := by
  have hz := h.zero
  unfold zeroOk at hz
  split at hz
  · rename_i z hz0
    simp only [Bool.and_eq_true, nbeq, decide_eq_true_eq] at hz
    obtain ⟨⟨c1, c2⟩, c3⟩ := hz
    have e : ((a.zero.map (·.cells)).getD #[]).toList = z.cells.toList := by rw [hz0]; rfl
    refine ⟨a, u.desc, h.info, h.und, rfl, rfl, rfl, ⟨z, hz0, ?_⟩, by show List.all ((a.zero.map (·.cells)).getD #[]).toList plain1 = true; rw [e]; exact c1, by show ((a.zero.map (·.cells)).getD #[]).toList.length = _; rw [e]; exact c2⟩
    unfold zval tiC
    simp only [e]
    cases z with
    | agg cs =>
      have : isAggD (TD.of u.desc) = true := by simpa [isAggV] using c3
      simp [this, Value.cells]
    | _ =>
      have : isAggD (TD.of u.desc) = false := by simpa [isAggV] using c3
      simp [this, Value.cells]
  · cases hz
noncomputable def TT : Tr TI := (.node (.node (.node (.node (.node (.node (.node (.node (.node .nil (some (tiC Tryz.t255 Tryz.t255)) .nil) (some (tiC Tryz.t127 Tryz.t127)) (.node .nil (some (tiC Tryz.t383 Tryz.t383)) .nil)) (some (tiC Tryz.t63 Tryz.t63)) (.node (.node .nil (some (tiC Tryz.t319 Tryz.t319)) .nil) (some (tiC Tryz.t191 Tryz.t191)) .nil)) (some (tiC Tryz.t31 Tryz.t31)) (.node (.node (.node .nil (some (tiC Tryz.t287 Tryz.t287)) .nil) (some (tiC Tryz.t159 Tryz.t159)) (.node .nil (some (tiC Tryz.t415 Tryz.t415)) .nil)) (some (tiC Tryz.t95 Tryz.t95)) (.node (.node .nil (some (tiC Tryz.t351 Tryz.t351)) .nil) (some (tiC Tryz.t223 Tryz.t223)) .nil))) (some (tiC Tryz.t15 Tryz.t15)) (.node (.node (.node (.node .nil none .nil) (some (tiC Tryz.t143 Tryz.t143)) (.node .nil (some (tiC Tryz.t399 Tryz.t398)) .nil)) (some (tiC Tryz.t79 Tryz.t79)) (.node (.node .nil (some (tiC Tryz.t335 Tryz.t335)) .nil) (some (tiC Tryz.t207 Tryz.t207)) .nil)) (some (tiC Tryz.t47 Tryz.t47)) (.node (.node (.node .nil (some (tiC Tryz.t303 Tryz.t303)) .nil) (some (tiC Tryz.t175 Tryz.t175)) .nil) (some (tiC Tryz.t111 Tryz.t111)) (.node (.node .nil (some (tiC Tryz.t367 Tryz.t367)) .nil) (some (tiC Tryz.t239 Tryz.t239)) .nil)))) (some (tiC Tryz.t7 Tryz.t7)) (.node (.node (.node (.node (.node .nil (some (tiC Tryz.t263 Tryz.t263)) .nil) (some (tiC Tryz.t135 Tryz.t135)) (.node .nil (some (tiC Tryz.t391 Tryz.t390)) .nil)) none (.node (.node .nil (some (tiC Tryz.t327 Tryz.t327)) .nil) (some (tiC Tryz.t199 Tryz.t199)) .nil)) (some (tiC Tryz.t39 Tryz.t38)) (.node (.node (.node .nil (some (tiC Tryz.t295 Tryz.t295)) .nil) (some (tiC Tryz.t167 Tryz.t167)) .nil) none (.node (.node .nil (some (tiC Tryz.t359 Tryz.t359)) .nil) none .nil))) (some (tiC Tryz.t23 Tryz.t23)) (.node (.node (.node (.node .nil (some (tiC Tryz.t279 Tryz.t279)) .nil) (some (tiC Tryz.t151 Tryz.t151)) (.node .nil (some (tiC Tryz.t407 Tryz.t21)) .nil)) (some (tiC Tryz.t87 Tryz.t86)) (.node (.node .nil (some (tiC Tryz.t343 Tryz.t343)) .nil) (some (tiC Tryz.t215 Tryz.t214)) .nil)) (some (tiC Tryz.t55 Tryz.t55)) (.node (.node (.node .nil (some (tiC Tryz.t311 Tryz.t311)) .nil) none .nil) (some (tiC Tryz.t119 Tryz.t119)) (.node (.node .nil (some (tiC Tryz.t375 Tryz.t375)) .nil) (some (tiC Tryz.t247 Tryz.t247)) .nil))))) (some (tiC Tryz.t3 Tryz.t3)) (.node (.node (.node (.node (.node (.node .nil (some (tiC Tryz.t259 Tryz.t259)) .nil) (some (tiC Tryz.t131 Tryz.t130)) (.node .nil (some (tiC Tryz.t387 Tryz.t387)) .nil)) (some (tiC Tryz.t67 Tryz.t66)) (.node (.node .nil (some (tiC Tryz.t323 Tryz.t323)) .nil) (some (tiC Tryz.t195 Tryz.t195)) .nil)) (some (tiC Tryz.t35 Tryz.t3)) (.node (.node (.node .nil (some (tiC Tryz.t291 Tryz.t291)) .nil) (some (tiC Tryz.t163 Tryz.t163)) .nil) (some (tiC Tryz.t99 Tryz.t99)) (.node (.node .nil (some (tiC Tryz.t355 Tryz.t355)) .nil) (some (tiC Tryz.t227 Tryz.t226)) .nil))) (some (tiC Tryz.t19 Tryz.t18)) (.node (.node (.node (.node .nil (some (tiC Tryz.t275 Tryz.t274)) .nil) (some (tiC Tryz.t147 Tryz.t147)) (.node .nil (some (tiC Tryz.t403 Tryz.t5)) .nil)) (some (tiC Tryz.t83 Tryz.t82)) (.node (.node .nil (some (tiC Tryz.t339 Tryz.t9)) .nil) (some (tiC Tryz.t211 Tryz.t211)) .nil)) (some (tiC Tryz.t51 Tryz.t51)) (.node (.node (.node .nil (some (tiC Tryz.t307 Tryz.t307)) .nil) (some (tiC Tryz.t179 Tryz.t179)) .nil) (some (tiC Tryz.t115 Tryz.t115)) (.node (.node .nil (some (tiC Tryz.t371 Tryz.t371)) .nil) (some (tiC Tryz.t243 Tryz.t243)) .nil)))) (some (tiC Tryz.t11 Tryz.t9)) (.node (.node (.node (.node (.node .nil (some (tiC Tryz.t267 Tryz.t267)) .nil) none (.node .nil (some (tiC Tryz.t395 Tryz.t395)) .nil)) (some (tiC Tryz.t75 Tryz.t75)) (.node (.node .nil (some (tiC Tryz.t331 Tryz.t331)) .nil) (some (tiC Tryz.t203 Tryz.t203)) .nil)) (some (tiC Tryz.t43 Tryz.t43)) (.node (.node (.node .nil (some (tiC Tryz.t299 Tryz.t299)) .nil) (some (tiC Tryz.t171 Tryz.t171)) .nil) (some (tiC Tryz.t107 Tryz.t107)) (.node (.node .nil none .nil) (some (tiC Tryz.t235 Tryz.t235)) .nil))) (some (tiC Tryz.t27 Tryz.t27)) (.node (.node (.node (.node .nil (some (tiC Tryz.t283 Tryz.t283)) .nil) (some (tiC Tryz.t155 Tryz.t155)) (.node .nil (some (tiC Tryz.t411 Tryz.t410)) .nil)) (some (tiC Tryz.t91 Tryz.t91)) (.node (.node .nil (some (tiC Tryz.t347 Tryz.t347)) .nil) (some (tiC Tryz.t219 Tryz.t219)) .nil)) (some (tiC Tryz.t59 Tryz.t58)) (.node (.node (.node .nil (some (tiC Tryz.t315 Tryz.t315)) .nil) (some (tiC Tryz.t187 Tryz.t187)) .nil) (some (tiC Tryz.t123 Tryz.t123)) (.node (.node .nil (some (tiC Tryz.t379 Tryz.t379)) .nil) (some (tiC Tryz.t251 Tryz.t251)) .nil)))))) (some (tiC Tryz.t1 Tryz.t1)) (.node (.node (.node (.node (.node (.node (.node .nil (some (tiC Tryz.t257 Tryz.t257)) .nil) (some (tiC Tryz.t129 Tryz.t129)) (.node .nil (some (tiC Tryz.t385 Tryz.t385)) .nil)) (some (tiC Tryz.t65 Tryz.t65)) (.node (.node .nil (some (tiC Tryz.t321 Tryz.t321)) .nil) (some (tiC Tryz.t193 Tryz.t193)) .nil)) (some (tiC Tryz.t33 Tryz.t33)) (.node (.node (.node .nil (some (tiC Tryz.t289 Tryz.t288)) .nil) (some (tiC Tryz.t161 Tryz.t161)) (.node .nil (some (tiC Tryz.t417 Tryz.t417)) .nil)) (some (tiC Tryz.t97 Tryz.t97)) (.node (.node .nil (some (tiC Tryz.t353 Tryz.t353)) .nil) (some (tiC Tryz.t225 Tryz.t225)) .nil))) (some (tiC Tryz.t17 Tryz.t17)) (.node (.node (.node (.node .nil (some (tiC Tryz.t273 Tryz.t273)) .nil) (some (tiC Tryz.t145 Tryz.t145)) (.node .nil (some (tiC Tryz.t401 Tryz.t401)) .nil)) (some (tiC Tryz.t81 Tryz.t81)) (.node (.node .nil (some (tiC Tryz.t337 Tryz.t337)) .nil) (some (tiC Tryz.t209 Tryz.t209)) .nil)) (some (tiC Tryz.t49 Tryz.t48)) (.node (.node (.node .nil (some (tiC Tryz.t305 Tryz.t305)) .nil) (some (tiC Tryz.t177 Tryz.t176)) .nil) (some (tiC Tryz.t113 Tryz.t113)) (.node (.node .nil (some (tiC Tryz.t369 Tryz.t369)) .nil) (some (tiC Tryz.t241 Tryz.t241)) .nil)))) (some (tiC Tryz.t9 Tryz.t9)) (.node (.node (.node (.node (.node .nil (some (tiC Tryz.t265 Tryz.t265)) .nil) (some (tiC Tryz.t137 Tryz.t137)) (.node .nil (some (tiC Tryz.t393 Tryz.t393)) .nil)) (some (tiC Tryz.t73 Tryz.t73)) (.node (.node .nil (some (tiC Tryz.t329 Tryz.t329)) .nil) (some (tiC Tryz.t201 Tryz.t201)) .nil)) (some (tiC Tryz.t41 Tryz.t41)) (.node (.node (.node .nil (some (tiC Tryz.t297 Tryz.t297)) .nil) (some (tiC Tryz.t169 Tryz.t169)) .nil) (some (tiC Tryz.t105 Tryz.t105)) (.node (.node .nil (some (tiC Tryz.t361 Tryz.t361)) .nil) (some (tiC Tryz.t233 Tryz.t233)) .nil))) (some (tiC Tryz.t25 Tryz.t25)) (.node (.node (.node (.node .nil (some (tiC Tryz.t281 Tryz.t281)) .nil) (some (tiC Tryz.t153 Tryz.t153)) (.node .nil (some (tiC Tryz.t409 Tryz.t408)) .nil)) (some (tiC Tryz.t89 Tryz.t88)) (.node (.node .nil (some (tiC Tryz.t345 Tryz.t345)) .nil) (some (tiC Tryz.t217 Tryz.t216)) .nil)) (some (tiC Tryz.t57 Tryz.t57)) (.node (.node (.node .nil none .nil) none .nil) (some (tiC Tryz.t121 Tryz.t121)) (.node (.node .nil (some (tiC Tryz.t377 Tryz.t377)) .nil) (some (tiC Tryz.t249 Tryz.t249)) .nil))))) (some (tiC Tryz.t5 Tryz.t5)) (.node (.node (.node (.node (.node (.node .nil (some (tiC Tryz.t261 Tryz.t261)) .nil) (some (tiC Tryz.t133 Tryz.t132)) (.node .nil (some (tiC Tryz.t389 Tryz.t389)) .nil)) (some (tiC Tryz.t69 Tryz.t69)) (.node (.node .nil (some (tiC Tryz.t325 Tryz.t325)) .nil) (some (tiC Tryz.t197 Tryz.t197)) .nil)) (some (tiC Tryz.t37 Tryz.t37)) (.node (.node (.node .nil (some (tiC Tryz.t293 Tryz.t293)) .nil) (some (tiC Tryz.t165 Tryz.t165)) .nil) (some (tiC Tryz.t101 Tryz.t101)) (.node (.node .nil (some (tiC Tryz.t357 Tryz.t357)) .nil) (some (tiC Tryz.t229 Tryz.t229)) .nil))) (some (tiC Tryz.t21 Tryz.t21)) (.node (.node (.node (.node .nil (some (tiC Tryz.t277 Tryz.t277)) .nil) (some (tiC Tryz.t149 Tryz.t149)) (.node .nil (some (tiC Tryz.t405 Tryz.t405)) .nil)) (some (tiC Tryz.t85 Tryz.t84)) (.node (.node .nil (some (tiC Tryz.t341 Tryz.t341)) .nil) (some (tiC Tryz.t213 Tryz.t213)) .nil)) (some (tiC Tryz.t53 Tryz.t53)) (.node (.node (.node .nil (some (tiC Tryz.t309 Tryz.t309)) .nil) (some (tiC Tryz.t181 Tryz.t181)) .nil) none (.node (.node .nil (some (tiC Tryz.t373 Tryz.t373)) .nil) none .nil)))) (some (tiC Tryz.t13 Tryz.t13)) (.node (.node (.node (.node (.node .nil (some (tiC Tryz.t269 Tryz.t268)) .nil) none (.node .nil (some (tiC Tryz.t397 Tryz.t397)) .nil)) (some (tiC Tryz.t77 Tryz.t77)) (.node (.node .nil (some (tiC Tryz.t333 Tryz.t333)) .nil) (some (tiC Tryz.t205 Tryz.t204)) .nil)) (some (tiC Tryz.t45 Tryz.t45)) (.node (.node (.node .nil (some (tiC Tryz.t301 Tryz.t301)) .nil) (some (tiC Tryz.t173 Tryz.t173)) .nil) (some (tiC Tryz.t109 Tryz.t109)) (.node (.node .nil (some (tiC Tryz.t365 Tryz.t365)) .nil) (some (tiC Tryz.t237 Tryz.t237)) .nil))) (some (tiC Tryz.t29 Tryz.t29)) (.node (.node (.node (.node .nil (some (tiC Tryz.t285 Tryz.t285)) .nil) (some (tiC Tryz.t157 Tryz.t157)) (.node .nil (some (tiC Tryz.t413 Tryz.t413)) .nil)) none (.node (.node .nil none .nil) (some (tiC Tryz.t221 Tryz.t221)) .nil)) (some (tiC Tryz.t61 Tryz.t61)) (.node (.node (.node .nil (some (tiC Tryz.t317 Tryz.t317)) .nil) (some (tiC Tryz.t189 Tryz.t189)) .nil) (some (tiC Tryz.t125 Tryz.t124)) (.node (.node .nil (some (tiC Tryz.t381 Tryz.t381)) .nil) (some (tiC Tryz.t253 Tryz.t253)) .nil))))))) (some (tiC Tryz.t0 Tryz.t0)) (.node (.node (.node (.node (.node (.node (.node (.node .nil (some (tiC Tryz.t256 Tryz.t255)) .nil) (some (tiC Tryz.t128 Tryz.t128)) (.node .nil (some (tiC Tryz.t384 Tryz.t383)) .nil)) (some (tiC Tryz.t64 Tryz.t63)) (.node (.node .nil (some (tiC Tryz.t320 Tryz.t320)) .nil) (some (tiC Tryz.t192 Tryz.t191)) .nil)) (some (tiC Tryz.t32 Tryz.t32)) (.node (.node (.node .nil (some (tiC Tryz.t288 Tryz.t288)) .nil) (some (tiC Tryz.t160 Tryz.t159)) (.node .nil (some (tiC Tryz.t416 Tryz.t415)) .nil)) (some (tiC Tryz.t96 Tryz.t96)) (.node (.node .nil (some (tiC Tryz.t352 Tryz.t352)) .nil) (some (tiC Tryz.t224 Tryz.t224)) .nil))) (some (tiC Tryz.t16 Tryz.t16)) (.node (.node (.node (.node .nil (some (tiC Tryz.t272 Tryz.t272)) .nil) (some (tiC Tryz.t144 Tryz.t144)) (.node .nil (some (tiC Tryz.t400 Tryz.t400)) .nil)) (some (tiC Tryz.t80 Tryz.t80)) (.node (.node .nil (some (tiC Tryz.t336 Tryz.t336)) .nil) (some (tiC Tryz.t208 Tryz.t208)) .nil)) (some (tiC Tryz.t48 Tryz.t48)) (.node (.node (.node .nil none .nil) (some (tiC Tryz.t176 Tryz.t176)) .nil) (some (tiC Tryz.t112 Tryz.t112)) (.node (.node .nil (some (tiC Tryz.t368 Tryz.t368)) .nil) (some (tiC Tryz.t240 Tryz.t239)) .nil)))) (some (tiC Tryz.t8 Tryz.t7)) (.node (.node (.node (.node (.node .nil (some (tiC Tryz.t264 Tryz.t264)) .nil) (some (tiC Tryz.t136 Tryz.t136)) (.node .nil (some (tiC Tryz.t392 Tryz.t392)) .nil)) (some (tiC Tryz.t72 Tryz.t72)) (.node (.node .nil (some (tiC Tryz.t328 Tryz.t328)) .nil) none .nil)) (some (tiC Tryz.t40 Tryz.t40)) (.node (.node (.node .nil (some (tiC Tryz.t296 Tryz.t295)) .nil) (some (tiC Tryz.t168 Tryz.t167)) .nil) (some (tiC Tryz.t104 Tryz.t104)) (.node (.node .nil (some (tiC Tryz.t360 Tryz.t360)) .nil) (some (tiC Tryz.t232 Tryz.t232)) .nil))) (some (tiC Tryz.t24 Tryz.t24)) (.node (.node (.node (.node .nil (some (tiC Tryz.t280 Tryz.t280)) .nil) (some (tiC Tryz.t152 Tryz.t152)) (.node .nil (some (tiC Tryz.t408 Tryz.t408)) .nil)) (some (tiC Tryz.t88 Tryz.t88)) (.node (.node .nil (some (tiC Tryz.t344 Tryz.t344)) .nil) (some (tiC Tryz.t216 Tryz.t216)) .nil)) (some (tiC Tryz.t56 Tryz.t56)) (.node (.node (.node .nil (some (tiC Tryz.t312 Tryz.t312)) .nil) (some (tiC Tryz.t184 Tryz.t184)) .nil) (some (tiC Tryz.t120 Tryz.t120)) (.node (.node .nil (some (tiC Tryz.t376 Tryz.t376)) .nil) none .nil))))) (some (tiC Tryz.t4 Tryz.t4)) (.node (.node (.node (.node (.node (.node .nil (some (tiC Tryz.t260 Tryz.t259)) .nil) (some (tiC Tryz.t132 Tryz.t132)) (.node .nil (some (tiC Tryz.t388 Tryz.t388)) .nil)) (some (tiC Tryz.t68 Tryz.t68)) (.node (.node .nil (some (tiC Tryz.t324 Tryz.t324)) .nil) (some (tiC Tryz.t196 Tryz.t196)) .nil)) none (.node (.node (.node .nil (some (tiC Tryz.t292 Tryz.t292)) .nil) (some (tiC Tryz.t164 Tryz.t163)) .nil) (some (tiC Tryz.t100 Tryz.t100)) (.node (.node .nil (some (tiC Tryz.t356 Tryz.t356)) .nil) (some (tiC Tryz.t228 Tryz.t228)) .nil))) (some (tiC Tryz.t20 Tryz.t20)) (.node (.node (.node (.node .nil none .nil) (some (tiC Tryz.t148 Tryz.t148)) (.node .nil (some (tiC Tryz.t404 Tryz.t5)) .nil)) (some (tiC Tryz.t84 Tryz.t84)) (.node (.node .nil (some (tiC Tryz.t340 Tryz.t340)) .nil) (some (tiC Tryz.t212 Tryz.t212)) .nil)) (some (tiC Tryz.t52 Tryz.t52)) (.node (.node (.node .nil (some (tiC Tryz.t308 Tryz.t308)) .nil) (some (tiC Tryz.t180 Tryz.t180)) .nil) (some (tiC Tryz.t116 Tryz.t115)) (.node (.node .nil (some (tiC Tryz.t372 Tryz.t372)) .nil) (some (tiC Tryz.t244 Tryz.t244)) .nil)))) (some (tiC Tryz.t12 Tryz.t12)) (.node (.node (.node (.node (.node .nil (some (tiC Tryz.t268 Tryz.t268)) .nil) (some (tiC Tryz.t140 Tryz.t140)) (.node .nil (some (tiC Tryz.t396 Tryz.t395)) .nil)) (some (tiC Tryz.t76 Tryz.t76)) (.node (.node .nil (some (tiC Tryz.t332 Tryz.t332)) .nil) (some (tiC Tryz.t204 Tryz.t204)) .nil)) (some (tiC Tryz.t44 Tryz.t44)) (.node (.node (.node .nil (some (tiC Tryz.t300 Tryz.t300)) .nil) (some (tiC Tryz.t172 Tryz.t172)) .nil) (some (tiC Tryz.t108 Tryz.t108)) (.node (.node .nil (some (tiC Tryz.t364 Tryz.t364)) .nil) (some (tiC Tryz.t236 Tryz.t236)) .nil))) (some (tiC Tryz.t28 Tryz.t28)) (.node (.node (.node (.node .nil none .nil) (some (tiC Tryz.t156 Tryz.t155)) (.node .nil (some (tiC Tryz.t412 Tryz.t412)) .nil)) (some (tiC Tryz.t92 Tryz.t91)) (.node (.node .nil (some (tiC Tryz.t348 Tryz.t348)) .nil) (some (tiC Tryz.t220 Tryz.t220)) .nil)) (some (tiC Tryz.t60 Tryz.t60)) (.node (.node (.node .nil (some (tiC Tryz.t316 Tryz.t316)) .nil) none .nil) (some (tiC Tryz.t124 Tryz.t124)) (.node (.node .nil (some (tiC Tryz.t380 Tryz.t380)) .nil) (some (tiC Tryz.t252 Tryz.t252)) .nil)))))) (some (tiC Tryz.t2 Tryz.t2)) (.node (.node (.node (.node (.node (.node (.node .nil (some (tiC Tryz.t258 Tryz.t257)) .nil) (some (tiC Tryz.t130 Tryz.t130)) (.node .nil none .nil)) (some (tiC Tryz.t66 Tryz.t66)) (.node (.node .nil (some (tiC Tryz.t322 Tryz.t322)) .nil) (some (tiC Tryz.t194 Tryz.t194)) .nil)) (some (tiC Tryz.t34 Tryz.t34)) (.node (.node (.node .nil (some (tiC Tryz.t290 Tryz.t290)) .nil) (some (tiC Tryz.t162 Tryz.t161)) .nil) none (.node (.node .nil (some (tiC Tryz.t354 Tryz.t354)) .nil) (some (tiC Tryz.t226 Tryz.t226)) .nil))) (some (tiC Tryz.t18 Tryz.t18)) (.node (.node (.node (.node .nil (some (tiC Tryz.t274 Tryz.t274)) .nil) (some (tiC Tryz.t146 Tryz.t146)) (.node .nil (some (tiC Tryz.t402 Tryz.t401)) .nil)) (some (tiC Tryz.t82 Tryz.t82)) (.node (.node .nil (some (tiC Tryz.t338 Tryz.t338)) .nil) (some (tiC Tryz.t210 Tryz.t210)) .nil)) (some (tiC Tryz.t50 Tryz.t50)) (.node (.node (.node .nil none .nil) (some (tiC Tryz.t178 Tryz.t178)) .nil) (some (tiC Tryz.t114 Tryz.t114)) (.node (.node .nil (some (tiC Tryz.t370 Tryz.t370)) .nil) (some (tiC Tryz.t242 Tryz.t242)) .nil)))) (some (tiC Tryz.t10 Tryz.t9)) (.node (.node (.node (.node (.node .nil (some (tiC Tryz.t266 Tryz.t265)) .nil) (some (tiC Tryz.t138 Tryz.t138)) (.node .nil (some (tiC Tryz.t394 Tryz.t394)) .nil)) (some (tiC Tryz.t74 Tryz.t74)) (.node (.node .nil none .nil) (some (tiC Tryz.t202 Tryz.t202)) .nil)) (some (tiC Tryz.t42 Tryz.t42)) (.node (.node (.node .nil (some (tiC Tryz.t298 Tryz.t298)) .nil) (some (tiC Tryz.t170 Tryz.t170)) .nil) none (.node (.node .nil (some (tiC Tryz.t362 Tryz.t362)) .nil) (some (tiC Tryz.t234 Tryz.t234)) .nil))) (some (tiC Tryz.t26 Tryz.t26)) (.node (.node (.node (.node .nil none .nil) (some (tiC Tryz.t154 Tryz.t154)) (.node .nil (some (tiC Tryz.t410 Tryz.t410)) .nil)) (some (tiC Tryz.t90 Tryz.t90)) (.node (.node .nil (some (tiC Tryz.t346 Tryz.t346)) .nil) none .nil)) (some (tiC Tryz.t58 Tryz.t58)) (.node (.node (.node .nil (some (tiC Tryz.t314 Tryz.t314)) .nil) (some (tiC Tryz.t186 Tryz.t186)) .nil) (some (tiC Tryz.t122 Tryz.t121)) (.node (.node .nil (some (tiC Tryz.t378 Tryz.t3)) .nil) (some (tiC Tryz.t250 Tryz.t250)) .nil))))) (some (tiC Tryz.t6 Tryz.t5)) (.node (.node (.node (.node (.node (.node .nil (some (tiC Tryz.t262 Tryz.t262)) .nil) (some (tiC Tryz.t134 Tryz.t134)) (.node .nil (some (tiC Tryz.t390 Tryz.t390)) .nil)) (some (tiC Tryz.t70 Tryz.t70)) (.node (.node .nil (some (tiC Tryz.t326 Tryz.t325)) .nil) none .nil)) (some (tiC Tryz.t38 Tryz.t38)) (.node (.node (.node .nil (some (tiC Tryz.t294 Tryz.t294)) .nil) (some (tiC Tryz.t166 Tryz.t166)) .nil) (some (tiC Tryz.t102 Tryz.t102)) (.node (.node .nil (some (tiC Tryz.t358 Tryz.t358)) .nil) (some (tiC Tryz.t230 Tryz.t230)) .nil))) (some (tiC Tryz.t22 Tryz.t22)) (.node (.node (.node (.node .nil (some (tiC Tryz.t278 Tryz.t278)) .nil) none (.node .nil (some (tiC Tryz.t406 Tryz.t21)) .nil)) (some (tiC Tryz.t86 Tryz.t86)) (.node (.node .nil (some (tiC Tryz.t342 Tryz.t342)) .nil) (some (tiC Tryz.t214 Tryz.t214)) .nil)) (some (tiC Tryz.t54 Tryz.t54)) (.node (.node (.node .nil (some (tiC Tryz.t310 Tryz.t310)) .nil) (some (tiC Tryz.t182 Tryz.t181)) .nil) (some (tiC Tryz.t118 Tryz.t118)) (.node (.node .nil (some (tiC Tryz.t374 Tryz.t373)) .nil) (some (tiC Tryz.t246 Tryz.t246)) .nil)))) (some (tiC Tryz.t14 Tryz.t13)) (.node (.node (.node (.node (.node .nil (some (tiC Tryz.t270 Tryz.t270)) .nil) (some (tiC Tryz.t142 Tryz.t142)) (.node .nil (some (tiC Tryz.t398 Tryz.t398)) .nil)) none (.node (.node .nil none .nil) (some (tiC Tryz.t206 Tryz.t206)) .nil)) (some (tiC Tryz.t46 Tryz.t46)) (.node (.node (.node .nil (some (tiC Tryz.t302 Tryz.t302)) .nil) (some (tiC Tryz.t174 Tryz.t173)) .nil) (some (tiC Tryz.t110 Tryz.t110)) (.node (.node .nil (some (tiC Tryz.t366 Tryz.t366)) .nil) (some (tiC Tryz.t238 Tryz.t238)) .nil))) (some (tiC Tryz.t30 Tryz.t30)) (.node (.node (.node (.node .nil (some (tiC Tryz.t286 Tryz.t286)) .nil) (some (tiC Tryz.t158 Tryz.t158)) (.node .nil (some (tiC Tryz.t414 Tryz.t414)) .nil)) (some (tiC Tryz.t94 Tryz.t94)) (.node (.node .nil (some (tiC Tryz.t350 Tryz.t350)) .nil) none .nil)) (some (tiC Tryz.t62 Tryz.t62)) (.node (.node (.node .nil none .nil) (some (tiC Tryz.t190 Tryz.t190)) .nil) none (.node (.node .nil (some (tiC Tryz.t382 Tryz.t382)) .nil) (some (tiC Tryz.t254 Tryz.t254)) .nil))))))))
noncomputable def FT : Tr Func := (.node (.node (.node (.node (.node (.node (.node (.node (.node .nil (some Tryz.f255) .nil) (some Tryz.f127) .nil) (some Tryz.f63) (.node (.node .nil (some Tryz.f319) .nil) (some Tryz.f191) .nil)) (some Tryz.f31) (.node (.node (.node .nil (some Tryz.f287) .nil) (some Tryz.f159) .nil) (some Tryz.f95) (.node (.node .nil none .nil) (some Tryz.f223) .nil))) (some Tryz.f15) (.node (.node (.node (.node .nil (some Tryz.f271) .nil) (some Tryz.f143) .nil) (some Tryz.f79) (.node (.node .nil (some Tryz.f335) .nil) (some Tryz.f207) .nil)) (some Tryz.f47) (.node (.node (.node .nil none .nil) (some Tryz.f175) .nil) (some Tryz.f111) (.node .nil (some Tryz.f239) .nil)))) (some Tryz.f7) (.node (.node (.node (.node (.node .nil (some Tryz.f263) .nil) (some Tryz.f135) .nil) (some Tryz.f71) (.node (.node .nil (some Tryz.f327) .nil) (some Tryz.f199) .nil)) (some Tryz.f39) (.node (.node (.node .nil none .nil) (some Tryz.f167) .nil) (some Tryz.f103) (.node (.node .nil none .nil) (some Tryz.f231) .nil))) (some Tryz.f23) (.node (.node (.node (.node .nil (some Tryz.f279) .nil) (some Tryz.f151) .nil) (some Tryz.f87) (.node (.node .nil (some Tryz.f343) .nil) (some Tryz.f215) .nil)) (some Tryz.f55) (.node (.node (.node .nil (some Tryz.f311) .nil) (some Tryz.f183) .nil) (some Tryz.f119) (.node .nil (some Tryz.f247) .nil))))) (some Tryz.f3) (.node (.node (.node (.node (.node (.node .nil (some Tryz.f259) .nil) (some Tryz.f131) .nil) (some Tryz.f67) (.node (.node .nil (some Tryz.f323) .nil) none .nil)) (some Tryz.f35) (.node (.node (.node .nil none .nil) (some Tryz.f163) .nil) (some Tryz.f99) (.node (.node .nil none .nil) (some Tryz.f227) .nil))) (some Tryz.f19) (.node (.node (.node (.node .nil (some Tryz.f275) .nil) (some Tryz.f147) .nil) (some Tryz.f83) (.node (.node .nil (some Tryz.f339) .nil) (some Tryz.f211) .nil)) (some Tryz.f51) (.node (.node (.node .nil none .nil) (some Tryz.f179) .nil) (some Tryz.f115) (.node .nil (some Tryz.f243) .nil)))) (some Tryz.f11) (.node (.node (.node (.node (.node .nil (some Tryz.f267) .nil) (some Tryz.f139) .nil) (some Tryz.f75) (.node (.node .nil (some Tryz.f331) .nil) (some Tryz.f203) .nil)) (some Tryz.f43) (.node (.node (.node .nil none .nil) (some Tryz.f171) .nil) (some Tryz.f107) (.node (.node .nil none .nil) (some Tryz.f235) .nil))) (some Tryz.f27) (.node (.node (.node (.node .nil (some Tryz.f283) .nil) (some Tryz.f155) .nil) (some Tryz.f91) (.node (.node .nil (some Tryz.f347) .nil) (some Tryz.f219) .nil)) (some Tryz.f59) (.node (.node (.node .nil (some Tryz.f315) .nil) (some Tryz.f187) .nil) (some Tryz.f123) (.node .nil (some Tryz.f251) .nil)))))) none (.node (.node (.node (.node (.node (.node (.node .nil (some Tryz.f257) .nil) (some Tryz.f129) .nil) (some Tryz.f65) (.node (.node .nil (some Tryz.f321) .nil) (some Tryz.f193) .nil)) (some Tryz.f33) (.node (.node (.node .nil none .nil) (some Tryz.f161) .nil) (some Tryz.f97) (.node (.node .nil none .nil) none .nil))) (some Tryz.f17) (.node (.node (.node (.node .nil (some Tryz.f273) .nil) (some Tryz.f145) .nil) (some Tryz.f81) (.node (.node .nil (some Tryz.f337) .nil) (some Tryz.f209) .nil)) (some Tryz.f49) (.node (.node (.node .nil none .nil) (some Tryz.f177) .nil) (some Tryz.f113) (.node .nil (some Tryz.f241) .nil)))) (some Tryz.f9) (.node (.node (.node (.node (.node .nil (some Tryz.f265) .nil) (some Tryz.f137) .nil) (some Tryz.f73) (.node (.node .nil (some Tryz.f329) .nil) (some Tryz.f201) .nil)) (some Tryz.f41) (.node (.node (.node .nil none .nil) (some Tryz.f169) .nil) (some Tryz.f105) (.node (.node .nil none .nil) (some Tryz.f233) .nil))) (some Tryz.f25) (.node (.node (.node (.node .nil (some Tryz.f281) .nil) (some Tryz.f153) .nil) (some Tryz.f89) (.node (.node .nil (some Tryz.f345) .nil) (some Tryz.f217) .nil)) (some Tryz.f57) (.node (.node (.node .nil (some Tryz.f313) .nil) (some Tryz.f185) .nil) (some Tryz.f121) (.node .nil none .nil))))) (some Tryz.f5) (.node (.node (.node (.node (.node (.node .nil (some Tryz.f261) .nil) (some Tryz.f133) .nil) (some Tryz.f69) (.node (.node .nil (some Tryz.f325) .nil) (some Tryz.f197) .nil)) (some Tryz.f37) (.node (.node (.node .nil none .nil) (some Tryz.f165) .nil) (some Tryz.f101) (.node (.node .nil none .nil) (some Tryz.f229) .nil))) (some Tryz.f21) (.node (.node (.node (.node .nil (some Tryz.f277) .nil) (some Tryz.f149) .nil) (some Tryz.f85) (.node (.node .nil (some Tryz.f341) .nil) (some Tryz.f213) .nil)) (some Tryz.f53) (.node (.node (.node .nil (some Tryz.f309) .nil) (some Tryz.f181) .nil) (some Tryz.f117) (.node .nil (some Tryz.f245) .nil)))) (some Tryz.f13) (.node (.node (.node (.node (.node .nil (some Tryz.f269) .nil) (some Tryz.f141) .nil) (some Tryz.f77) (.node (.node .nil (some Tryz.f333) .nil) (some Tryz.f205) .nil)) (some Tryz.f45) (.node (.node (.node .nil none .nil) (some Tryz.f173) .nil) (some Tryz.f109) (.node (.node .nil (some Tryz.f365) .nil) (some Tryz.f237) .nil))) (some Tryz.f29) (.node (.node (.node (.node .nil (some Tryz.f285) .nil) (some Tryz.f157) .nil) (some Tryz.f93) (.node (.node .nil (some Tryz.f349) .nil) (some Tryz.f221) .nil)) (some Tryz.f61) (.node (.node (.node .nil (some Tryz.f317) .nil) (some Tryz.f189) .nil) (some Tryz.f125) (.node .nil (some Tryz.f253) .nil))))))) none (.node (.node (.node (.node (.node (.node (.node (.node .nil (some Tryz.f256) .nil) (some Tryz.f128) .nil) (some Tryz.f64) (.node (.node .nil (some Tryz.f320) .nil) (some Tryz.f192) .nil)) (some Tryz.f32) (.node (.node (.node .nil (some Tryz.f288) .nil) (some Tryz.f160) .nil) (some Tryz.f96) (.node (.node .nil none .nil) (some Tryz.f224) .nil))) (some Tryz.f16) (.node (.node (.node (.node .nil (some Tryz.f272) .nil) (some Tryz.f144) .nil) (some Tryz.f80) (.node (.node .nil (some Tryz.f336) .nil) (some Tryz.f208) .nil)) (some Tryz.f48) (.node (.node (.node .nil none .nil) (some Tryz.f176) .nil) (some Tryz.f112) (.node .nil (some Tryz.f240) .nil)))) (some Tryz.f8) (.node (.node (.node (.node (.node .nil (some Tryz.f264) .nil) (some Tryz.f136) .nil) (some Tryz.f72) (.node (.node .nil (some Tryz.f328) .nil) (some Tryz.f200) .nil)) (some Tryz.f40) (.node (.node (.node .nil none .nil) (some Tryz.f168) .nil) (some Tryz.f104) (.node (.node .nil none .nil) (some Tryz.f232) .nil))) (some Tryz.f24) (.node (.node (.node (.node .nil (some Tryz.f280) .nil) (some Tryz.f152) .nil) (some Tryz.f88) (.node (.node .nil (some Tryz.f344) .nil) (some Tryz.f216) .nil)) (some Tryz.f56) (.node (.node (.node .nil (some Tryz.f312) .nil) (some Tryz.f184) .nil) (some Tryz.f120) (.node .nil none .nil))))) (some Tryz.f4) (.node (.node (.node (.node (.node (.node .nil (some Tryz.f260) .nil) (some Tryz.f132) .nil) (some Tryz.f68) (.node (.node .nil (some Tryz.f324) .nil) (some Tryz.f196) .nil)) (some Tryz.f36) (.node (.node (.node .nil none .nil) (some Tryz.f164) .nil) (some Tryz.f100) (.node (.node .nil none .nil) (some Tryz.f228) .nil))) (some Tryz.f20) (.node (.node (.node (.node .nil (some Tryz.f276) .nil) (some Tryz.f148) .nil) (some Tryz.f84) (.node (.node .nil (some Tryz.f340) .nil) (some Tryz.f212) .nil)) (some Tryz.f52) (.node (.node (.node .nil (some Tryz.f308) .nil) (some Tryz.f180) .nil) (some Tryz.f116) (.node .nil (some Tryz.f244) .nil)))) (some Tryz.f12) (.node (.node (.node (.node (.node .nil (some Tryz.f268) .nil) (some Tryz.f140) .nil) (some Tryz.f76) (.node (.node .nil (some Tryz.f332) .nil) (some Tryz.f204) .nil)) (some Tryz.f44) (.node (.node (.node .nil none .nil) (some Tryz.f172) .nil) (some Tryz.f108) (.node (.node .nil none .nil) (some Tryz.f236) .nil))) (some Tryz.f28) (.node (.node (.node (.node .nil (some Tryz.f284) .nil) (some Tryz.f156) .nil) (some Tryz.f92) (.node (.node .nil (some Tryz.f348) .nil) (some Tryz.f220) .nil)) (some Tryz.f60) (.node (.node (.node .nil (some Tryz.f316) .nil) (some Tryz.f188) .nil) (some Tryz.f124) (.node .nil (some Tryz.f252) .nil)))))) (some Tryz.f2) (.node (.node (.node (.node (.node (.node (.node .nil (some Tryz.f258) .nil) (some Tryz.f130) .nil) (some Tryz.f66) (.node (.node .nil (some Tryz.f322) .nil) (some Tryz.f194) .nil)) (some Tryz.f34) (.node (.node (.node .nil none .nil) (some Tryz.f162) .nil) (some Tryz.f98) (.node (.node .nil none .nil) (some Tryz.f226) .nil))) (some Tryz.f18) (.node (.node (.node (.node .nil (some Tryz.f274) .nil) (some Tryz.f146) .nil) (some Tryz.f82) (.node (.node .nil (some Tryz.f338) .nil) (some Tryz.f210) .nil)) (some Tryz.f50) (.node (.node (.node .nil none .nil) (some Tryz.f178) .nil) (some Tryz.f114) (.node .nil (some Tryz.f242) .nil)))) (some Tryz.f10) (.node (.node (.node (.node (.node .nil (some Tryz.f266) .nil) (some Tryz.f138) .nil) (some Tryz.f74) (.node (.node .nil (some Tryz.f330) .nil) (some Tryz.f202) .nil)) (some Tryz.f42) (.node (.node (.node .nil none .nil) (some Tryz.f170) .nil) (some Tryz.f106) (.node (.node .nil none .nil) (some Tryz.f234) .nil))) (some Tryz.f26) (.node (.node (.node (.node .nil (some Tryz.f282) .nil) (some Tryz.f154) .nil) (some Tryz.f90) (.node (.node .nil (some Tryz.f346) .nil) (some Tryz.f218) .nil)) (some Tryz.f58) (.node (.node (.node .nil (some Tryz.f314) .nil) (some Tryz.f186) .nil) (some Tryz.f122) (.node .nil (some Tryz.f250) .nil))))) (some Tryz.f6) (.node (.node (.node (.node (.node (.node .nil (some Tryz.f262) .nil) (some Tryz.f134) .nil) (some Tryz.f70) (.node (.node .nil (some Tryz.f326) .nil) (some Tryz.f198) .nil)) (some Tryz.f38) (.node (.node (.node .nil none .nil) (some Tryz.f166) .nil) (some Tryz.f102) (.node (.node .nil none .nil) (some Tryz.f230) .nil))) (some Tryz.f22) (.node (.node (.node (.node .nil none .nil) (some Tryz.f150) .nil) (some Tryz.f86) (.node (.node .nil (some Tryz.f342) .nil) (some Tryz.f214) .nil)) (some Tryz.f54) (.node (.node (.node .nil (some Tryz.f310) .nil) (some Tryz.f182) .nil) (some Tryz.f118) (.node .nil (some Tryz.f246) .nil)))) (some Tryz.f14) (.node (.node (.node (.node (.node .nil (some Tryz.f270) .nil) (some Tryz.f142) .nil) (some Tryz.f78) (.node (.node .nil (some Tryz.f334) .nil) none .nil)) (some Tryz.f46) (.node (.node (.node .nil none .nil) (some Tryz.f174) .nil) (some Tryz.f110) (.node .nil (some Tryz.f238) .nil))) (some Tryz.f30) (.node (.node (.node (.node .nil (some Tryz.f286) .nil) (some Tryz.f158) .nil) (some Tryz.f94) (.node (.node .nil (some Tryz.f350) .nil) (some Tryz.f222) .nil)) (some Tryz.f62) (.node (.node (.node .nil (some Tryz.f318) .nil) (some Tryz.f190) .nil) (some Tryz.f126) (.node .nil (some Tryz.f254) .nil))))))))
noncomputable def E0 : Env := ⟨Tryz.prog, TT⟩
theorem ty_0 : TyRow 0 Tryz.t0 Tryz.t0 := ⟨by kernel_rfl, by kernel_rfl, by kernel_rfl⟩
theorem ty_1 : TyRow 1 Tryz.t1 Tryz.t1 := ⟨by kernel_rfl, by kernel_rfl, by kernel_rfl⟩
theorem ty_2 : TyRow 2 Tryz.t2 Tryz.t2 := ⟨by kernel_rfl, by kernel_rfl, by kernel_rfl⟩
theorem ty_3 : TyRow 3 Tryz.t3 Tryz.t3 := ⟨by kernel_rfl, by kernel_rfl, by kernel_rfl⟩
theorem ty_4 : TyRow 4 Tryz.t4 Tryz.t4 := ⟨by kernel_rfl, by kernel_rfl, by kernel_rfl⟩
theorem ty_5 : TyRow 5 Tryz.t5 Tryz.t5 := ⟨by kernel_rfl, by kernel_rfl, by kernel_rfl⟩
theorem ty_6 : TyRow 6 Tryz.t6 Tryz.t5 := ⟨by kernel_rfl, by kernel_rfl, by kernel_rfl⟩
theorem ty_7 : TyRow 7 Tryz.t7 Tryz.t7 := ⟨by kernel_rfl, by kernel_rfl, by kernel_rfl⟩
theorem ty_8 : TyRow 8 Tryz.t8 Tryz.t7 := ⟨by kernel_rfl, by kernel_rfl, by kernel_rfl⟩
theorem ty_9 : TyRow 9 Tryz.t9 Tryz.t9 := ⟨by kernel_rfl, by kernel_rfl, by kernel_rfl⟩
theorem ty_10 : TyRow 10 Tryz.t10 Tryz.t9 := ⟨by kernel_rfl, by kernel_rfl, by kernel_rfl⟩
theorem ty_11 : TyRow 11 Tryz.t11 Tryz.t9 := ⟨by kernel_rfl, by kernel_rfl, by kernel_rfl⟩
theorem ty_12 : TyRow 12 Tryz.t12 Tryz.t12 := ⟨by kernel_rfl, by kernel_rfl, by kernel_rfl⟩
theorem ty_13 : TyRow 13 Tryz.t13 Tryz.t13 := ⟨by kernel_rfl, by kernel_rfl, by kernel_rfl⟩
theorem ty_14 : TyRow 14 Tryz.t14 Tryz.t13 := ⟨by kernel_rfl, by kernel_rfl, by kernel_rfl⟩
theorem ty_15 : TyRow 15 Tryz.t15 Tryz.t15 := ⟨by kernel_rfl, by kernel_rfl, by kernel_rfl⟩
theorem ty_16 : TyRow 16 Tryz.t16 Tryz.t16 := ⟨by kernel_rfl, by kernel_rfl, by kernel_rfl⟩
theorem ty_17 : TyRow 17 Tryz.t17 Tryz.t17 := ⟨by kernel_rfl, by kernel_rfl, by kernel_rfl⟩
theorem ty_18 : TyRow 18 Tryz.t18 Tryz.t18 := ⟨by kernel_rfl, by kernel_rfl, by kernel_rfl⟩
theorem ty_19 : TyRow 19 Tryz.t19 Tryz.t18 := ⟨by kernel_rfl, by kernel_rfl, by kernel_rfl⟩
theorem ty_20 : TyRow 20 Tryz.t20 Tryz.t20 := ⟨by kernel_rfl, by kernel_rfl, by kernel_rfl⟩
theorem ty_21 : TyRow 21 Tryz.t21 Tryz.t21 := ⟨by kernel_rfl, by kernel_rfl, by kernel_rfl⟩
theorem ty_22 : TyRow 22 Tryz.t22 Tryz.t22 := ⟨by kernel_rfl, by kernel_rfl, by kernel_rfl⟩
theorem ty_23 : TyRow 23 Tryz.t23 Tryz.t23 := ⟨by kernel_rfl, by kernel_rfl, by kernel_rfl⟩
theorem ty_24 : TyRow 24 Tryz.t24 Tryz.t24 := ⟨by kernel_rfl, by kernel_rfl, by kernel_rfl⟩
theorem ty_25 : TyRow 25 Tryz.t25 Tryz.t25 := ⟨by kernel_rfl, by kernel_rfl, by kernel_rfl⟩
theorem ty_26 : TyRow 26 Tryz.t26 Tryz.t26 := ⟨by kernel_rfl, by kernel_rfl, by kernel_rfl⟩
theorem ty_27 : TyRow 27 Tryz.t27 Tryz.t27 := ⟨by kernel_rfl, by kernel_rfl, by kernel_rfl⟩
theorem ty_28 : TyRow 28 Tryz.t28 Tryz.t28 := ⟨by kernel_rfl, by kernel_rfl, by kernel_rfl⟩
theorem ty_29 : TyRow 29 Tryz.t29 Tryz.t29 := ⟨by kernel_rfl, by kernel_rfl, by kernel_rfl⟩
theorem ty_30 : TyRow 30 Tryz.t30 Tryz.t30 := ⟨by kernel_rfl, by kernel_rfl, by kernel_rfl⟩
theorem ty_31 : TyRow 31 Tryz.t31 Tryz.t31 := ⟨by kernel_rfl, by kernel_rfl, by kernel_rfl⟩
theorem ty_32 : TyRow 32 Tryz.t32 Tryz.t32 := ⟨by kernel_rfl, by kernel_rfl, by kernel_rfl⟩
theorem ty_33 : TyRow 33 Tryz.t33 Tryz.t33 := ⟨by kernel_rfl, by kernel_rfl, by kernel_rfl⟩
theorem ty_34 : TyRow 34 Tryz.t34 Tryz.t34 := ⟨by kernel_rfl, by kernel_rfl, by kernel_rfl⟩
theorem ty_35 : TyRow 35 Tryz.t35 Tryz.t3 := ⟨by kernel_rfl, by kernel_rfl, by kernel_rfl⟩
theorem ty_37 : TyRow 37 Tryz.t37 Tryz.t37 := ⟨by kernel_rfl, by kernel_rfl, by kernel_rfl⟩
theorem ty_38 : TyRow 38 Tryz.t38 Tryz.t38 := ⟨by kernel_rfl, by kernel_rfl, by kernel_rfl⟩
theorem ty_39 : TyRow 39 Tryz.t39 Tryz.t38 := ⟨by kernel_rfl, by kernel_rfl, by kernel_rfl⟩
theorem ty_40 : TyRow 40 Tryz.t40 Tryz.t40 := ⟨by kernel_rfl, by kernel_rfl, by kernel_rfl⟩
theorem ty_41 : TyRow 41 Tryz.t41 Tryz.t41 := ⟨by kernel_rfl, by kernel_rfl, by kernel_rfl⟩
theorem ty_42 : TyRow 42 Tryz.t42 Tryz.t42 := ⟨by kernel_rfl, by kernel_rfl, by kernel_rfl⟩
theorem ty_43 : TyRow 43 Tryz.t43 Tryz.t43 := ⟨by kernel_rfl, by kernel_rfl, by kernel_rfl⟩
theorem ty_44 : TyRow 44 Tryz.t44 Tryz.t44 := ⟨by kernel_rfl, by kernel_rfl, by kernel_rfl⟩
theorem ty_45 : TyRow 45 Tryz.t45 Tryz.t45 := ⟨by kernel_rfl, by kernel_rfl, by kernel_rfl⟩
theorem ty_46 : TyRow 46 Tryz.t46 Tryz.t46 := ⟨by kernel_rfl, by kernel_rfl, by kernel_rfl⟩
theorem ty_47 : TyRow 47 Tryz.t47 Tryz.t47 := ⟨by kernel_rfl, by kernel_rfl, by kernel_rfl⟩
theorem ty_48 : TyRow 48 Tryz.t48 Tryz.t48 := ⟨by kernel_rfl, by kernel_rfl, by kernel_rfl⟩
theorem ty_49 : TyRow 49 Tryz.t49 Tryz.t48 := ⟨by kernel_rfl, by kernel_rfl, by kernel_rfl⟩
theorem ty_50 : TyRow 50 Tryz.t50 Tryz.t50 := ⟨by kernel_rfl, by kernel_rfl, by kernel_rfl⟩
theorem ty_51 : TyRow 51 Tryz.t51 Tryz.t51 := ⟨by kernel_rfl, by kernel_rfl, by kernel_rfl⟩
theorem ty_52 : TyRow 52 Tryz.t52 Tryz.t52 := ⟨by kernel_rfl, by kernel_rfl, by kernel_rfl⟩
theorem ty_53 : TyRow 53 Tryz.t53 Tryz.t53 := ⟨by kernel_rfl, by kernel_rfl, by kernel_rfl⟩
theorem ty_54 : TyRow 54 Tryz.t54 Tryz.t54 := ⟨by kernel_rfl, by kernel_rfl, by kernel_rfl⟩
theorem ty_55 : TyRow 55 Tryz.t55 Tryz.t55 := ⟨by kernel_rfl, by kernel_rfl, by kernel_rfl⟩
theorem ty_56 : TyRow 56 Tryz.t56 Tryz.t56 := ⟨by kernel_rfl, by kernel_rfl, by kernel_rfl⟩
theorem ty_57 : TyRow 57 Tryz.t57 Tryz.t57 := ⟨by kernel_rfl, by kernel_rfl, by kernel_rfl⟩
theorem ty_58 : TyRow 58 Tryz.t58 Tryz.t58 := ⟨by kernel_rfl, by kernel_rfl, by kernel_rfl⟩
theorem ty_59 : TyRow 59 Tryz.t59 Tryz.t58 := ⟨by kernel_rfl, by kernel_rfl, by kernel_rfl⟩
theorem ty_60 : TyRow 60 Tryz.t60 Tryz.t60 := ⟨by kernel_rfl, by kernel_rfl, by kernel_rfl⟩
theorem ty_61 : TyRow 61 Tryz.t61 Tryz.t61 := ⟨by kernel_rfl, by kernel_rfl, by kernel_rfl⟩
theorem ty_62 : TyRow 62 Tryz.t62 Tryz.t62 := ⟨by kernel_rfl, by kernel_rfl, by kernel_rfl⟩
theorem ty_63 : TyRow 63 Tryz.t63 Tryz.t63 := ⟨by kernel_rfl, by kernel_rfl, by kernel_rfl⟩
theorem ty_64 : TyRow 64 Tryz.t64 Tryz.t63 := ⟨by kernel_rfl, by kernel_rfl, by kernel_rfl⟩
theorem ty_65 : TyRow 65 Tryz.t65 Tryz.t65 := ⟨by kernel_rfl, by kernel_rfl, by kernel_rfl⟩
theorem ty_66 : TyRow 66 Tryz.t66 Tryz.t66 := ⟨by kernel_rfl, by kernel_rfl, by kernel_rfl⟩
theorem ty_67 : TyRow 67 Tryz.t67 Tryz.t66 := ⟨by kernel_rfl, by kernel_rfl, by kernel_rfl⟩
theorem ty_68 : TyRow 68 Tryz.t68 Tryz.t68 := ⟨by kernel_rfl, by kernel_rfl, by kernel_rfl⟩
theorem ty_69 : TyRow 69 Tryz.t69 Tryz.t69 := ⟨by kernel_rfl, by kernel_rfl, by kernel_rfl⟩
theorem ty_70 : TyRow 70 Tryz.t70 Tryz.t70 := ⟨by kernel_rfl, by kernel_rfl, by kernel_rfl⟩
theorem ty_72 : TyRow 72 Tryz.t72 Tryz.t72 := ⟨by kernel_rfl, by kernel_rfl, by kernel_rfl⟩
theorem ty_73 : TyRow 73 Tryz.t73 Tryz.t73 := ⟨by kernel_rfl, by kernel_rfl, by kernel_rfl⟩
theorem ty_74 : TyRow 74 Tryz.t74 Tryz.t74 := ⟨by kernel_rfl, by kernel_rfl, by kernel_rfl⟩
theorem ty_75 : TyRow 75 Tryz.t75 Tryz.t75 := ⟨by kernel_rfl, by kernel_rfl, by kernel_rfl⟩
theorem ty_76 : TyRow 76 Tryz.t76 Tryz.t76 := ⟨by kernel_rfl, by kernel_rfl, by kernel_rfl⟩
theorem ty_77 : TyRow 77 Tryz.t77 Tryz.t77 := ⟨by kernel_rfl, by kernel_rfl, by kernel_rfl⟩
theorem ty_79 : TyRow 79 Tryz.t79 Tryz.t79 := ⟨by kernel_rfl, by kernel_rfl, by kernel_rfl⟩
theorem ty_80 : TyRow 80 Tryz.t80 Tryz.t80 := ⟨by kernel_rfl, by kernel_rfl, by kernel_rfl⟩
theorem ty_81 : TyRow 81 Tryz.t81 Tryz.t81 := ⟨by kernel_rfl, by kernel_rfl, by kernel_rfl⟩
theorem ty_82 : TyRow 82 Tryz.t82 Tryz.t82 := ⟨by kernel_rfl, by kernel_rfl, by kernel_rfl⟩
theorem ty_83 : TyRow 83 Tryz.t83 Tryz.t82 := ⟨by kernel_rfl, by kernel_rfl, by kernel_rfl⟩
theorem ty_84 : TyRow 84 Tryz.t84 Tryz.t84 := ⟨by kernel_rfl, by kernel_rfl, by kernel_rfl⟩
theorem ty_85 : TyRow 85 Tryz.t85 Tryz.t84 := ⟨by kernel_rfl, by kernel_rfl, by kernel_rfl⟩
theorem ty_86 : TyRow 86 Tryz.t86 Tryz.t86 := ⟨by kernel_rfl, by kernel_rfl, by kernel_rfl⟩
theorem ty_87 : TyRow 87 Tryz.t87 Tryz.t86 := ⟨by kernel_rfl, by kernel_rfl, by kernel_rfl⟩
theorem ty_88 : TyRow 88 Tryz.t88 Tryz.t88 := ⟨by kernel_rfl, by kernel_rfl, by kernel_rfl⟩
theorem ty_89 : TyRow 89 Tryz.t89 Tryz.t88 := ⟨by kernel_rfl, by kernel_rfl, by kernel_rfl⟩
theorem ty_90 : TyRow 90 Tryz.t90 Tryz.t90 := ⟨by kernel_rfl, by kernel_rfl, by kernel_rfl⟩
theorem ty_91 : TyRow 91 Tryz.t91 Tryz.t91 := ⟨by kernel_rfl, by kernel_rfl, by kernel_rfl⟩
theorem ty_92 : TyRow 92 Tryz.t92 Tryz.t91 := ⟨by kernel_rfl, by kernel_rfl, by kernel_rfl⟩
theorem ty_94 : TyRow 94 Tryz.t94 Tryz.t94 := ⟨by kernel_rfl, by kernel_rfl, by kernel_rfl⟩
theorem ty_95 : TyRow 95 Tryz.t95 Tryz.t95 := ⟨by kernel_rfl, by kernel_rfl, by kernel_rfl⟩
theorem ty_96 : TyRow 96 Tryz.t96 Tryz.t96 := ⟨by kernel_rfl, by kernel_rfl, by kernel_rfl⟩
theorem ty_97 : TyRow 97 Tryz.t97 Tryz.t97 := ⟨by kernel_rfl, by kernel_rfl, by kernel_rfl⟩
theorem ty_99 : TyRow 99 Tryz.t99 Tryz.t99 := ⟨by kernel_rfl, by kernel_rfl, by kernel_rfl⟩
theorem ty_100 : TyRow 100 Tryz.t100 Tryz.t100 := ⟨by kernel_rfl, by kernel_rfl, by kernel_rfl⟩
theorem ty_101 : TyRow 101 Tryz.t101 Tryz.t101 := ⟨by kernel_rfl, by kernel_rfl, by kernel_rfl⟩
theorem ty_102 : TyRow 102 Tryz.t102 Tryz.t102 := ⟨by kernel_rfl, by kernel_rfl, by kernel_rfl⟩
theorem ty_104 : TyRow 104 Tryz.t104 Tryz.t104 := ⟨by kernel_rfl, by kernel_rfl, by kernel_rfl⟩
theorem ty_105 : TyRow 105 Tryz.t105 Tryz.t105 := ⟨by kernel_rfl, by kernel_rfl, by kernel_rfl⟩
theorem ty_107 : TyRow 107 Tryz.t107 Tryz.t107 := ⟨by kernel_rfl, by kernel_rfl, by kernel_rfl⟩
theorem ty_108 : TyRow 108 Tryz.t108 Tryz.t108 := ⟨by kernel_rfl, by kernel_rfl, by kernel_rfl⟩
theorem ty_109 : TyRow 109 Tryz.t109 Tryz.t109 := ⟨by kernel_rfl, by kernel_rfl, by kernel_rfl⟩
theorem ty_110 : TyRow 110 Tryz.t110 Tryz.t110 := ⟨by kernel_rfl, by kernel_rfl, by kernel_rfl⟩
theorem ty_111 : TyRow 111 Tryz.t111 Tryz.t111 := ⟨by kernel_rfl, by kernel_rfl, by kernel_rfl⟩
theorem ty_112 : TyRow 112 Tryz.t112 Tryz.t112 := ⟨by kernel_rfl, by kernel_rfl, by kernel_rfl⟩
theorem ty_113 : TyRow 113 Tryz.t113 Tryz.t113 := ⟨by kernel_rfl, by kernel_rfl, by kernel_rfl⟩
theorem ty_114 : TyRow 114 Tryz.t114 Tryz.t114 := ⟨by kernel_rfl, by kernel_rfl, by kernel_rfl⟩
theorem ty_115 : TyRow 115 Tryz.t115 Tryz.t115 := ⟨by kernel_rfl, by kernel_rfl, by kernel_rfl⟩
theorem ty_116 : TyRow 116 Tryz.t116 Tryz.t115 := ⟨by kernel_rfl, by kernel_rfl, by kernel_rfl⟩
theorem ty_118 : TyRow 118 Tryz.t118 Tryz.t118 := ⟨by kernel_rfl, by kernel_rfl, by kernel_rfl⟩
theorem ty_119 : TyRow 119 Tryz.t119 Tryz.t119 := ⟨by kernel_rfl, by kernel_rfl, by kernel_rfl⟩
theorem ty_120 : TyRow 120 Tryz.t120 Tryz.t120 := ⟨by kernel_rfl, by kernel_rfl, by kernel_rfl⟩
theorem ty_121 : TyRow 121 Tryz.t121 Tryz.t121 := ⟨by kernel_rfl, by kernel_rfl, by kernel_rfl⟩
theorem ty_122 : TyRow 122 Tryz.t122 Tryz.t121 := ⟨by kernel_rfl, by kernel_rfl, by kernel_rfl⟩
theorem ty_123 : TyRow 123 Tryz.t123 Tryz.t123 := ⟨by kernel_rfl, by kernel_rfl, by kernel_rfl⟩
theorem ty_124 : TyRow 124 Tryz.t124 Tryz.t124 := ⟨by kernel_rfl, by kernel_rfl, by kernel_rfl⟩
theorem ty_125 : TyRow 125 Tryz.t125 Tryz.t124 := ⟨by kernel_rfl, by kernel_rfl, by kernel_rfl⟩
theorem ty_127 : TyRow 127 Tryz.t127 Tryz.t127 := ⟨by kernel_rfl, by kernel_rfl, by kernel_rfl⟩
theorem ty_128 : TyRow 128 Tryz.t128 Tryz.t128 := ⟨by kernel_rfl, by kernel_rfl, by kernel_rfl⟩
theorem ty_129 : TyRow 129 Tryz.t129 Tryz.t129 := ⟨by kernel_rfl, by kernel_rfl, by kernel_rfl⟩
theorem ty_130 : TyRow 130 Tryz.t130 Tryz.t130 := ⟨by kernel_rfl, by kernel_rfl, by kernel_rfl⟩
theorem ty_131 : TyRow 131 Tryz.t131 Tryz.t130 := ⟨by kernel_rfl, by kernel_rfl, by kernel_rfl⟩
theorem ty_132 : TyRow 132 Tryz.t132 Tryz.t132 := ⟨by kernel_rfl, by kernel_rfl, by kernel_rfl⟩
theorem ty_133 : TyRow 133 Tryz.t133 Tryz.t132 := ⟨by kernel_rfl, by kernel_rfl, by kernel_rfl⟩
theorem ty_134 : TyRow 134 Tryz.t134 Tryz.t134 := ⟨by kernel_rfl, by kernel_rfl, by kernel_rfl⟩
theorem ty_135 : TyRow 135 Tryz.t135 Tryz.t135 := ⟨by kernel_rfl, by kernel_rfl, by kernel_rfl⟩
theorem ty_136 : TyRow 136 Tryz.t136 Tryz.t136 := ⟨by kernel_rfl, by kernel_rfl, by kernel_rfl⟩
theorem ty_137 : TyRow 137 Tryz.t137 Tryz.t137 := ⟨by kernel_rfl, by kernel_rfl, by kernel_rfl⟩
theorem ty_138 : TyRow 138 Tryz.t138 Tryz.t138 := ⟨by kernel_rfl, by kernel_rfl, by kernel_rfl⟩
theorem ty_140 : TyRow 140 Tryz.t140 Tryz.t140 := ⟨by kernel_rfl, by kernel_rfl, by kernel_rfl⟩
theorem ty_142 : TyRow 142 Tryz.t142 Tryz.t142 := ⟨by kernel_rfl, by kernel_rfl, by kernel_rfl⟩
theorem ty_143 : TyRow 143 Tryz.t143 Tryz.t143 := ⟨by kernel_rfl, by kernel_rfl, by kernel_rfl⟩
theorem ty_144 : TyRow 144 Tryz.t144 Tryz.t144 := ⟨by kernel_rfl, by kernel_rfl, by kernel_rfl⟩
theorem ty_145 : TyRow 145 Tryz.t145 Tryz.t145 := ⟨by kernel_rfl, by kernel_rfl, by kernel_rfl⟩
theorem ty_146 : TyRow 146 Tryz.t146 Tryz.t146 := ⟨by kernel_rfl, by kernel_rfl, by kernel_rfl⟩
theorem ty_147 : TyRow 147 Tryz.t147 Tryz.t147 := ⟨by kernel_rfl, by kernel_rfl, by kernel_rfl⟩
theorem ty_148 : TyRow 148 Tryz.t148 Tryz.t148 := ⟨by kernel_rfl, by kernel_rfl, by kernel_rfl⟩
theorem ty_149 : TyRow 149 Tryz.t149 Tryz.t149 := ⟨by kernel_rfl, by kernel_rfl, by kernel_rfl⟩
theorem ty_151 : TyRow 151 Tryz.t151 Tryz.t151 := ⟨by kernel_rfl, by kernel_rfl, by kernel_rfl⟩
theorem ty_152 : TyRow 152 Tryz.t152 Tryz.t152 := ⟨by kernel_rfl, by kernel_rfl, by kernel_rfl⟩
theorem ty_153 : TyRow 153 Tryz.t153 Tryz.t153 := ⟨by kernel_rfl, by kernel_rfl, by kernel_rfl⟩
theorem ty_154 : TyRow 154 Tryz.t154 Tryz.t154 := ⟨by kernel_rfl, by kernel_rfl, by kernel_rfl⟩
theorem ty_155 : TyRow 155 Tryz.t155 Tryz.t155 := ⟨by kernel_rfl, by kernel_rfl, by kernel_rfl⟩
theorem ty_156 : TyRow 156 Tryz.t156 Tryz.t155 := ⟨by kernel_rfl, by kernel_rfl, by kernel_rfl⟩
theorem ty_157 : TyRow 157 Tryz.t157 Tryz.t157 := ⟨by kernel_rfl, by kernel_rfl, by kernel_rfl⟩
theorem ty_158 : TyRow 158 Tryz.t158 Tryz.t158 := ⟨by kernel_rfl, by kernel_rfl, by kernel_rfl⟩
theorem ty_159 : TyRow 159 Tryz.t159 Tryz.t159 := ⟨by kernel_rfl, by kernel_rfl, by kernel_rfl⟩
theorem ty_160 : TyRow 160 Tryz.t160 Tryz.t159 := ⟨by kernel_rfl, by kernel_rfl, by kernel_rfl⟩
theorem ty_161 : TyRow 161 Tryz.t161 Tryz.t161 := ⟨by kernel_rfl, by kernel_rfl, by kernel_rfl⟩
theorem ty_162 : TyRow 162 Tryz.t162 Tryz.t161 := ⟨by kernel_rfl, by kernel_rfl, by kernel_rfl⟩
theorem ty_163 : TyRow 163 Tryz.t163 Tryz.t163 := ⟨by kernel_rfl, by kernel_rfl, by kernel_rfl⟩
theorem ty_164 : TyRow 164 Tryz.t164 Tryz.t163 := ⟨by kernel_rfl, by kernel_rfl, by kernel_rfl⟩
theorem ty_165 : TyRow 165 Tryz.t165 Tryz.t165 := ⟨by kernel_rfl, by kernel_rfl, by kernel_rfl⟩
theorem ty_166 : TyRow 166 Tryz.t166 Tryz.t166 := ⟨by kernel_rfl, by kernel_rfl, by kernel_rfl⟩
theorem ty_167 : TyRow 167 Tryz.t167 Tryz.t167 := ⟨by kernel_rfl, by kernel_rfl, by kernel_rfl⟩
theorem ty_168 : TyRow 168 Tryz.t168 Tryz.t167 := ⟨by kernel_rfl, by kernel_rfl, by kernel_rfl⟩
theorem ty_169 : TyRow 169 Tryz.t169 Tryz.t169 := ⟨by kernel_rfl, by kernel_rfl, by kernel_rfl⟩
theorem ty_170 : TyRow 170 Tryz.t170 Tryz.t170 := ⟨by kernel_rfl, by kernel_rfl, by kernel_rfl⟩
theorem ty_171 : TyRow 171 Tryz.t171 Tryz.t171 := ⟨by kernel_rfl, by kernel_rfl, by kernel_rfl⟩
theorem ty_172 : TyRow 172 Tryz.t172 Tryz.t172 := ⟨by kernel_rfl, by kernel_rfl, by kernel_rfl⟩
theorem ty_173 : TyRow 173 Tryz.t173 Tryz.t173 := ⟨by kernel_rfl, by kernel_rfl, by kernel_rfl⟩
theorem ty_174 : TyRow 174 Tryz.t174 Tryz.t173 := ⟨by kernel_rfl, by kernel_rfl, by kernel_rfl⟩
theorem ty_175 : TyRow 175 Tryz.t175 Tryz.t175 := ⟨by kernel_rfl, by kernel_rfl, by kernel_rfl⟩
theorem ty_176 : TyRow 176 Tryz.t176 Tryz.t176 := ⟨by kernel_rfl, by kernel_rfl, by kernel_rfl⟩
theorem ty_177 : TyRow 177 Tryz.t177 Tryz.t176 := ⟨by kernel_rfl, by kernel_rfl, by kernel_rfl⟩
theorem ty_178 : TyRow 178 Tryz.t178 Tryz.t178 := ⟨by kernel_rfl, by kernel_rfl, by kernel_rfl⟩
theorem ty_179 : TyRow 179 Tryz.t179 Tryz.t179 := ⟨by kernel_rfl, by kernel_rfl, by kernel_rfl⟩
theorem ty_180 : TyRow 180 Tryz.t180 Tryz.t180 := ⟨by kernel_rfl, by kernel_rfl, by kernel_rfl⟩
theorem ty_181 : TyRow 181 Tryz.t181 Tryz.t181 := ⟨by kernel_rfl, by kernel_rfl, by kernel_rfl⟩
theorem ty_182 : TyRow 182 Tryz.t182 Tryz.t181 := ⟨by kernel_rfl, by kernel_rfl, by kernel_rfl⟩
theorem ty_184 : TyRow 184 Tryz.t184 Tryz.t184 := ⟨by kernel_rfl, by kernel_rfl, by kernel_rfl⟩
theorem ty_186 : TyRow 186 Tryz.t186 Tryz.t186 := ⟨by kernel_rfl, by kernel_rfl, by kernel_rfl⟩
theorem ty_187 : TyRow 187 Tryz.t187 Tryz.t187 := ⟨by kernel_rfl, by kernel_rfl, by kernel_rfl⟩
theorem ty_189 : TyRow 189 Tryz.t189 Tryz.t189 := ⟨by kernel_rfl, by kernel_rfl, by kernel_rfl⟩
theorem ty_190 : TyRow 190 Tryz.t190 Tryz.t190 := ⟨by kernel_rfl, by kernel_rfl, by kernel_rfl⟩
theorem ty_191 : TyRow 191 Tryz.t191 Tryz.t191 := ⟨by kernel_rfl, by kernel_rfl, by kernel_rfl⟩
theorem ty_192 : TyRow 192 Tryz.t192 Tryz.t191 := ⟨by kernel_rfl, by kernel_rfl, by kernel_rfl⟩
theorem ty_193 : TyRow 193 Tryz.t193 Tryz.t193 := ⟨by kernel_rfl, by kernel_rfl, by kernel_rfl⟩
theorem ty_194 : TyRow 194 Tryz.t194 Tryz.t194 := ⟨by kernel_rfl, by kernel_rfl, by kernel_rfl⟩
theorem ty_195 : TyRow 195 Tryz.t195 Tryz.t195 := ⟨by kernel_rfl, by kernel_rfl, by kernel_rfl⟩
theorem ty_196 : TyRow 196 Tryz.t196 Tryz.t196 := ⟨by kernel_rfl, by kernel_rfl, by kernel_rfl⟩
theorem ty_197 : TyRow 197 Tryz.t197 Tryz.t197 := ⟨by kernel_rfl, by kernel_rfl, by kernel_rfl⟩
theorem ty_199 : TyRow 199 Tryz.t199 Tryz.t199 := ⟨by kernel_rfl, by kernel_rfl, by kernel_rfl⟩
theorem ty_201 : TyRow 201 Tryz.t201 Tryz.t201 := ⟨by kernel_rfl, by kernel_rfl, by kernel_rfl⟩
theorem ty_202 : TyRow 202 Tryz.t202 Tryz.t202 := ⟨by kernel_rfl, by kernel_rfl, by kernel_rfl⟩
theorem ty_203 : TyRow 203 Tryz.t203 Tryz.t203 := ⟨by kernel_rfl, by kernel_rfl, by kernel_rfl⟩
theorem ty_204 : TyRow 204 Tryz.t204 Tryz.t204 := ⟨by kernel_rfl, by kernel_rfl, by kernel_rfl⟩
theorem ty_205 : TyRow 205 Tryz.t205 Tryz.t204 := ⟨by kernel_rfl, by kernel_rfl, by kernel_rfl⟩
theorem ty_206 : TyRow 206 Tryz.t206 Tryz.t206 := ⟨by kernel_rfl, by kernel_rfl, by kernel_rfl⟩
theorem ty_207 : TyRow 207 Tryz.t207 Tryz.t207 := ⟨by kernel_rfl, by kernel_rfl, by kernel_rfl⟩
theorem ty_208 : TyRow 208 Tryz.t208 Tryz.t208 := ⟨by kernel_rfl, by kernel_rfl, by kernel_rfl⟩
theorem ty_209 : TyRow 209 Tryz.t209 Tryz.t209 := ⟨by kernel_rfl, by kernel_rfl, by kernel_rfl⟩
theorem ty_210 : TyRow 210 Tryz.t210 Tryz.t210 := ⟨by kernel_rfl, by kernel_rfl, by kernel_rfl⟩
theorem ty_211 : TyRow 211 Tryz.t211 Tryz.t211 := ⟨by kernel_rfl, by kernel_rfl, by kernel_rfl⟩
theorem ty_212 : TyRow 212 Tryz.t212 Tryz.t212 := ⟨by kernel_rfl, by kernel_rfl, by kernel_rfl⟩
theorem ty_213 : TyRow 213 Tryz.t213 Tryz.t213 := ⟨by kernel_rfl, by kernel_rfl, by kernel_rfl⟩
theorem ty_214 : TyRow 214 Tryz.t214 Tryz.t214 := ⟨by kernel_rfl, by kernel_rfl, by kernel_rfl⟩
theorem ty_215 : TyRow 215 Tryz.t215 Tryz.t214 := ⟨by kernel_rfl, by kernel_rfl, by kernel_rfl⟩
theorem ty_216 : TyRow 216 Tryz.t216 Tryz.t216 := ⟨by kernel_rfl, by kernel_rfl, by kernel_rfl⟩
theorem ty_217 : TyRow 217 Tryz.t217 Tryz.t216 := ⟨by kernel_rfl, by kernel_rfl, by kernel_rfl⟩
theorem ty_219 : TyRow 219 Tryz.t219 Tryz.t219 := ⟨by kernel_rfl, by kernel_rfl, by kernel_rfl⟩
theorem ty_220 : TyRow 220 Tryz.t220 Tryz.t220 := ⟨by kernel_rfl, by kernel_rfl, by kernel_rfl⟩
theorem ty_221 : TyRow 221 Tryz.t221 Tryz.t221 := ⟨by kernel_rfl, by kernel_rfl, by kernel_rfl⟩
theorem ty_223 : TyRow 223 Tryz.t223 Tryz.t223 := ⟨by kernel_rfl, by kernel_rfl, by kernel_rfl⟩
theorem ty_224 : TyRow 224 Tryz.t224 Tryz.t224 := ⟨by kernel_rfl, by kernel_rfl, by kernel_rfl⟩
theorem ty_225 : TyRow 225 Tryz.t225 Tryz.t225 := ⟨by kernel_rfl, by kernel_rfl, by kernel_rfl⟩
theorem ty_226 : TyRow 226 Tryz.t226 Tryz.t226 := ⟨by kernel_rfl, by kernel_rfl, by kernel_rfl⟩
theorem ty_227 : TyRow 227 Tryz.t227 Tryz.t226 := ⟨by kernel_rfl, by kernel_rfl, by kernel_rfl⟩
theorem ty_228 : TyRow 228 Tryz.t228 Tryz.t228 := ⟨by kernel_rfl, by kernel_rfl, by kernel_rfl⟩
theorem ty_229 : TyRow 229 Tryz.t229 Tryz.t229 := ⟨by kernel_rfl, by kernel_rfl, by kernel_rfl⟩
theorem ty_230 : TyRow 230 Tryz.t230 Tryz.t230 := ⟨by kernel_rfl, by kernel_rfl, by kernel_rfl⟩
theorem ty_232 : TyRow 232 Tryz.t232 Tryz.t232 := ⟨by kernel_rfl, by kernel_rfl, by kernel_rfl⟩
theorem ty_233 : TyRow 233 Tryz.t233 Tryz.t233 := ⟨by kernel_rfl, by kernel_rfl, by kernel_rfl⟩
theorem ty_234 : TyRow 234 Tryz.t234 Tryz.t234 := ⟨by kernel_rfl, by kernel_rfl, by kernel_rfl⟩
theorem ty_235 : TyRow 235 Tryz.t235 Tryz.t235 := ⟨by kernel_rfl, by kernel_rfl, by kernel_rfl⟩
theorem ty_236 : TyRow 236 Tryz.t236 Tryz.t236 := ⟨by kernel_rfl, by kernel_rfl, by kernel_rfl⟩
theorem ty_237 : TyRow 237 Tryz.t237 Tryz.t237 := ⟨by kernel_rfl, by kernel_rfl, by kernel_rfl⟩
theorem ty_238 : TyRow 238 Tryz.t238 Tryz.t238 := ⟨by kernel_rfl, by kernel_rfl, by kernel_rfl⟩
theorem ty_239 : TyRow 239 Tryz.t239 Tryz.t239 := ⟨by kernel_rfl, by kernel_rfl, by kernel_rfl⟩
theorem ty_240 : TyRow 240 Tryz.t240 Tryz.t239 := ⟨by kernel_rfl, by kernel_rfl, by kernel_rfl⟩
theorem ty_241 : TyRow 241 Tryz.t241 Tryz.t241 := ⟨by kernel_rfl, by kernel_rfl, by kernel_rfl⟩
theorem ty_242 : TyRow 242 Tryz.t242 Tryz.t242 := ⟨by kernel_rfl, by kernel_rfl, by kernel_rfl⟩
theorem ty_243 : TyRow 243 Tryz.t243 Tryz.t243 := ⟨by kernel_rfl, by kernel_rfl, by kernel_rfl⟩
theorem ty_244 : TyRow 244 Tryz.t244 Tryz.t244 := ⟨by kernel_rfl, by kernel_rfl, by kernel_rfl⟩
theorem ty_246 : TyRow 246 Tryz.t246 Tryz.t246 := ⟨by kernel_rfl, by kernel_rfl, by kernel_rfl⟩
theorem ty_247 : TyRow 247 Tryz.t247 Tryz.t247 := ⟨by kernel_rfl, by kernel_rfl, by kernel_rfl⟩
theorem ty_249 : TyRow 249 Tryz.t249 Tryz.t249 := ⟨by kernel_rfl, by kernel_rfl, by kernel_rfl⟩
theorem ty_250 : TyRow 250 Tryz.t250 Tryz.t250 := ⟨by kernel_rfl, by kernel_rfl, by kernel_rfl⟩
theorem ty_251 : TyRow 251 Tryz.t251 Tryz.t251 := ⟨by kernel_rfl, by kernel_rfl, by kernel_rfl⟩
theorem ty_252 : TyRow 252 Tryz.t252 Tryz.t252 := ⟨by kernel_rfl, by kernel_rfl, by kernel_rfl⟩
theorem ty_253 : TyRow 253 Tryz.t253 Tryz.t253 := ⟨by kernel_rfl, by kernel_rfl, by kernel_rfl⟩
theorem ty_254 : TyRow 254 Tryz.t254 Tryz.t254 := ⟨by kernel_rfl, by kernel_rfl, by kernel_rfl⟩
theorem ty_255 : TyRow 255 Tryz.t255 Tryz.t255 := ⟨by kernel_rfl, by kernel_rfl, by kernel_rfl⟩
theorem ty_256 : TyRow 256 Tryz.t256 Tryz.t255 := ⟨by kernel_rfl, by kernel_rfl, by kernel_rfl⟩
theorem ty_257 : TyRow 257 Tryz.t257 Tryz.t257 := ⟨by kernel_rfl, by kernel_rfl, by kernel_rfl⟩
theorem ty_258 : TyRow 258 Tryz.t258 Tryz.t257 := ⟨by kernel_rfl, by kernel_rfl, by kernel_rfl⟩
theorem ty_259 : TyRow 259 Tryz.t259 Tryz.t259 := ⟨by kernel_rfl, by kernel_rfl, by kernel_rfl⟩
theorem ty_260 : TyRow 260 Tryz.t260 Tryz.t259 := ⟨by kernel_rfl, by kernel_rfl, by kernel_rfl⟩
theorem ty_261 : TyRow 261 Tryz.t261 Tryz.t261 := ⟨by kernel_rfl, by kernel_rfl, by kernel_rfl⟩
theorem ty_262 : TyRow 262 Tryz.t262 Tryz.t262 := ⟨by kernel_rfl, by kernel_rfl, by kernel_rfl⟩
theorem ty_263 : TyRow 263 Tryz.t263 Tryz.t263 := ⟨by kernel_rfl, by kernel_rfl, by kernel_rfl⟩
theorem ty_264 : TyRow 264 Tryz.t264 Tryz.t264 := ⟨by kernel_rfl, by kernel_rfl, by kernel_rfl⟩
theorem ty_265 : TyRow 265 Tryz.t265 Tryz.t265 := ⟨by kernel_rfl, by kernel_rfl, by kernel_rfl⟩
theorem ty_266 : TyRow 266 Tryz.t266 Tryz.t265 := ⟨by kernel_rfl, by kernel_rfl, by kernel_rfl⟩
theorem ty_267 : TyRow 267 Tryz.t267 Tryz.t267 := ⟨by kernel_rfl, by kernel_rfl, by kernel_rfl⟩
theorem ty_268 : TyRow 268 Tryz.t268 Tryz.t268 := ⟨by kernel_rfl, by kernel_rfl, by kernel_rfl⟩
theorem ty_269 : TyRow 269 Tryz.t269 Tryz.t268 := ⟨by kernel_rfl, by kernel_rfl, by kernel_rfl⟩
theorem ty_270 : TyRow 270 Tryz.t270 Tryz.t270 := ⟨by kernel_rfl, by kernel_rfl, by kernel_rfl⟩
theorem ty_272 : TyRow 272 Tryz.t272 Tryz.t272 := ⟨by kernel_rfl, by kernel_rfl, by kernel_rfl⟩
theorem ty_273 : TyRow 273 Tryz.t273 Tryz.t273 := ⟨by kernel_rfl, by kernel_rfl, by kernel_rfl⟩
theorem ty_274 : TyRow 274 Tryz.t274 Tryz.t274 := ⟨by kernel_rfl, by kernel_rfl, by kernel_rfl⟩
theorem ty_275 : TyRow 275 Tryz.t275 Tryz.t274 := ⟨by kernel_rfl, by kernel_rfl, by kernel_rfl⟩
theorem ty_277 : TyRow 277 Tryz.t277 Tryz.t277 := ⟨by kernel_rfl, by kernel_rfl, by kernel_rfl⟩
theorem ty_278 : TyRow 278 Tryz.t278 Tryz.t278 := ⟨by kernel_rfl, by kernel_rfl, by kernel_rfl⟩
theorem ty_279 : TyRow 279 Tryz.t279 Tryz.t279 := ⟨by kernel_rfl, by kernel_rfl, by kernel_rfl⟩
theorem ty_280 : TyRow 280 Tryz.t280 Tryz.t280 := ⟨by kernel_rfl, by kernel_rfl, by kernel_rfl⟩
theorem ty_281 : TyRow 281 Tryz.t281 Tryz.t281 := ⟨by kernel_rfl, by kernel_rfl, by kernel_rfl⟩
theorem ty_283 : TyRow 283 Tryz.t283 Tryz.t283 := ⟨by kernel_rfl, by kernel_rfl, by kernel_rfl⟩
theorem ty_285 : TyRow 285 Tryz.t285 Tryz.t285 := ⟨by kernel_rfl, by kernel_rfl, by kernel_rfl⟩
theorem ty_286 : TyRow 286 Tryz.t286 Tryz.t286 := ⟨by kernel_rfl, by kernel_rfl, by kernel_rfl⟩
theorem ty_287 : TyRow 287 Tryz.t287 Tryz.t287 := ⟨by kernel_rfl, by kernel_rfl, by kernel_rfl⟩
theorem ty_288 : TyRow 288 Tryz.t288 Tryz.t288 := ⟨by kernel_rfl, by kernel_rfl, by kernel_rfl⟩
theorem ty_289 : TyRow 289 Tryz.t289 Tryz.t288 := ⟨by kernel_rfl, by kernel_rfl, by kernel_rfl⟩
theorem ty_290 : TyRow 290 Tryz.t290 Tryz.t290 := ⟨by kernel_rfl, by kernel_rfl, by kernel_rfl⟩
theorem ty_291 : TyRow 291 Tryz.t291 Tryz.t291 := ⟨by kernel_rfl, by kernel_rfl, by kernel_rfl⟩
theorem ty_292 : TyRow 292 Tryz.t292 Tryz.t292 := ⟨by kernel_rfl, by kernel_rfl, by kernel_rfl⟩
theorem ty_293 : TyRow 293 Tryz.t293 Tryz.t293 := ⟨by kernel_rfl, by kernel_rfl, by kernel_rfl⟩
theorem ty_294 : TyRow 294 Tryz.t294 Tryz.t294 := ⟨by kernel_rfl, by kernel_rfl, by kernel_rfl⟩
theorem ty_295 : TyRow 295 Tryz.t295 Tryz.t295 := ⟨by kernel_rfl, by kernel_rfl, by kernel_rfl⟩
theorem ty_296 : TyRow 296 Tryz.t296 Tryz.t295 := ⟨by kernel_rfl, by kernel_rfl, by kernel_rfl⟩
theorem ty_297 : TyRow 297 Tryz.t297 Tryz.t297 := ⟨by kernel_rfl, by kernel_rfl, by kernel_rfl⟩
theorem ty_298 : TyRow 298 Tryz.t298 Tryz.t298 := ⟨by kernel_rfl, by kernel_rfl, by kernel_rfl⟩
theorem ty_299 : TyRow 299 Tryz.t299 Tryz.t299 := ⟨by kernel_rfl, by kernel_rfl, by kernel_rfl⟩
theorem ty_300 : TyRow 300 Tryz.t300 Tryz.t300 := ⟨by kernel_rfl, by kernel_rfl, by kernel_rfl⟩
theorem ty_301 : TyRow 301 Tryz.t301 Tryz.t301 := ⟨by kernel_rfl, by kernel_rfl, by kernel_rfl⟩
theorem ty_302 : TyRow 302 Tryz.t302 Tryz.t302 := ⟨by kernel_rfl, by kernel_rfl, by kernel_rfl⟩
theorem ty_303 : TyRow 303 Tryz.t303 Tryz.t303 := ⟨by kernel_rfl, by kernel_rfl, by kernel_rfl⟩
theorem ty_305 : TyRow 305 Tryz.t305 Tryz.t305 := ⟨by kernel_rfl, by kernel_rfl, by kernel_rfl⟩
theorem ty_307 : TyRow 307 Tryz.t307 Tryz.t307 := ⟨by kernel_rfl, by kernel_rfl, by kernel_rfl⟩
theorem ty_308 : TyRow 308 Tryz.t308 Tryz.t308 := ⟨by kernel_rfl, by kernel_rfl, by kernel_rfl⟩
theorem ty_309 : TyRow 309 Tryz.t309 Tryz.t309 := ⟨by kernel_rfl, by kernel_rfl, by kernel_rfl⟩
theorem ty_310 : TyRow 310 Tryz.t310 Tryz.t310 := ⟨by kernel_rfl, by kernel_rfl, by kernel_rfl⟩
theorem ty_311 : TyRow 311 Tryz.t311 Tryz.t311 := ⟨by kernel_rfl, by kernel_rfl, by kernel_rfl⟩
theorem ty_312 : TyRow 312 Tryz.t312 Tryz.t312 := ⟨by kernel_rfl, by kernel_rfl, by kernel_rfl⟩
theorem ty_314 : TyRow 314 Tryz.t314 Tryz.t314 := ⟨by kernel_rfl, by kernel_rfl, by kernel_rfl⟩
theorem ty_315 : TyRow 315 Tryz.t315 Tryz.t315 := ⟨by kernel_rfl, by kernel_rfl, by kernel_rfl⟩
theorem ty_316 : TyRow 316 Tryz.t316 Tryz.t316 := ⟨by kernel_rfl, by kernel_rfl, by kernel_rfl⟩
theorem ty_317 : TyRow 317 Tryz.t317 Tryz.t317 := ⟨by kernel_rfl, by kernel_rfl, by kernel_rfl⟩
theorem ty_319 : TyRow 319 Tryz.t319 Tryz.t319 := ⟨by kernel_rfl, by kernel_rfl, by kernel_rfl⟩
theorem ty_320 : TyRow 320 Tryz.t320 Tryz.t320 := ⟨by kernel_rfl, by kernel_rfl, by kernel_rfl⟩
theorem ty_321 : TyRow 321 Tryz.t321 Tryz.t321 := ⟨by kernel_rfl, by kernel_rfl, by kernel_rfl⟩
theorem ty_322 : TyRow 322 Tryz.t322 Tryz.t322 := ⟨by kernel_rfl, by kernel_rfl, by kernel_rfl⟩
theorem ty_323 : TyRow 323 Tryz.t323 Tryz.t323 := ⟨by kernel_rfl, by kernel_rfl, by kernel_rfl⟩
theorem ty_324 : TyRow 324 Tryz.t324 Tryz.t324 := ⟨by kernel_rfl, by kernel_rfl, by kernel_rfl⟩
theorem ty_325 : TyRow 325 Tryz.t325 Tryz.t325 := ⟨by kernel_rfl, by kernel_rfl, by kernel_rfl⟩
theorem ty_326 : TyRow 326 Tryz.t326 Tryz.t325 := ⟨by kernel_rfl, by kernel_rfl, by kernel_rfl⟩
theorem ty_327 : TyRow 327 Tryz.t327 Tryz.t327 := ⟨by kernel_rfl, by kernel_rfl, by kernel_rfl⟩
theorem ty_328 : TyRow 328 Tryz.t328 Tryz.t328 := ⟨by kernel_rfl, by kernel_rfl, by kernel_rfl⟩
theorem ty_329 : TyRow 329 Tryz.t329 Tryz.t329 := ⟨by kernel_rfl, by kernel_rfl, by kernel_rfl⟩
theorem ty_331 : TyRow 331 Tryz.t331 Tryz.t331 := ⟨by kernel_rfl, by kernel_rfl, by kernel_rfl⟩
theorem ty_332 : TyRow 332 Tryz.t332 Tryz.t332 := ⟨by kernel_rfl, by kernel_rfl, by kernel_rfl⟩
theorem ty_333 : TyRow 333 Tryz.t333 Tryz.t333 := ⟨by kernel_rfl, by kernel_rfl, by kernel_rfl⟩
theorem ty_335 : TyRow 335 Tryz.t335 Tryz.t335 := ⟨by kernel_rfl, by kernel_rfl, by kernel_rfl⟩
theorem ty_336 : TyRow 336 Tryz.t336 Tryz.t336 := ⟨by kernel_rfl, by kernel_rfl, by kernel_rfl⟩
theorem ty_337 : TyRow 337 Tryz.t337 Tryz.t337 := ⟨by kernel_rfl, by kernel_rfl, by kernel_rfl⟩
theorem ty_338 : TyRow 338 Tryz.t338 Tryz.t338 := ⟨by kernel_rfl, by kernel_rfl, by kernel_rfl⟩
theorem ty_339 : TyRow 339 Tryz.t339 Tryz.t9 := ⟨by kernel_rfl, by kernel_rfl, by kernel_rfl⟩
theorem ty_340 : TyRow 340 Tryz.t340 Tryz.t340 := ⟨by kernel_rfl, by kernel_rfl, by kernel_rfl⟩
theorem ty_341 : TyRow 341 Tryz.t341 Tryz.t341 := ⟨by kernel_rfl, by kernel_rfl, by kernel_rfl⟩
theorem ty_342 : TyRow 342 Tryz.t342 Tryz.t342 := ⟨by kernel_rfl, by kernel_rfl, by kernel_rfl⟩
theorem ty_343 : TyRow 343 Tryz.t343 Tryz.t343 := ⟨by kernel_rfl, by kernel_rfl, by kernel_rfl⟩
theorem ty_344 : TyRow 344 Tryz.t344 Tryz.t344 := ⟨by kernel_rfl, by kernel_rfl, by kernel_rfl⟩
theorem ty_345 : TyRow 345 Tryz.t345 Tryz.t345 := ⟨by kernel_rfl, by kernel_rfl, by kernel_rfl⟩
theorem ty_346 : TyRow 346 Tryz.t346 Tryz.t346 := ⟨by kernel_rfl, by kernel_rfl, by kernel_rfl⟩
theorem ty_347 : TyRow 347 Tryz.t347 Tryz.t347 := ⟨by kernel_rfl, by kernel_rfl, by kernel_rfl⟩
theorem ty_348 : TyRow 348 Tryz.t348 Tryz.t348 := ⟨by kernel_rfl, by kernel_rfl, by kernel_rfl⟩
theorem ty_350 : TyRow 350 Tryz.t350 Tryz.t350 := ⟨by kernel_rfl, by kernel_rfl, by kernel_rfl⟩
theorem ty_351 : TyRow 351 Tryz.t351 Tryz.t351 := ⟨by kernel_rfl, by kernel_rfl, by kernel_rfl⟩
theorem ty_352 : TyRow 352 Tryz.t352 Tryz.t352 := ⟨by kernel_rfl, by kernel_rfl, by kernel_rfl⟩
theorem ty_353 : TyRow 353 Tryz.t353 Tryz.t353 := ⟨by kernel_rfl, by kernel_rfl, by kernel_rfl⟩
theorem ty_354 : TyRow 354 Tryz.t354 Tryz.t354 := ⟨by kernel_rfl, by kernel_rfl, by kernel_rfl⟩
theorem ty_355 : TyRow 355 Tryz.t355 Tryz.t355 := ⟨by kernel_rfl, by kernel_rfl, by kernel_rfl⟩
theorem ty_356 : TyRow 356 Tryz.t356 Tryz.t356 := ⟨by kernel_rfl, by kernel_rfl, by kernel_rfl⟩
theorem ty_357 : TyRow 357 Tryz.t357 Tryz.t357 := ⟨by kernel_rfl, by kernel_rfl, by kernel_rfl⟩
theorem ty_358 : TyRow 358 Tryz.t358 Tryz.t358 := ⟨by kernel_rfl, by kernel_rfl, by kernel_rfl⟩
theorem ty_359 : TyRow 359 Tryz.t359 Tryz.t359 := ⟨by kernel_rfl, by kernel_rfl, by kernel_rfl⟩
theorem ty_360 : TyRow 360 Tryz.t360 Tryz.t360 := ⟨by kernel_rfl, by kernel_rfl, by kernel_rfl⟩
theorem ty_361 : TyRow 361 Tryz.t361 Tryz.t361 := ⟨by kernel_rfl, by kernel_rfl, by kernel_rfl⟩
theorem ty_362 : TyRow 362 Tryz.t362 Tryz.t362 := ⟨by kernel_rfl, by kernel_rfl, by kernel_rfl⟩
theorem ty_364 : TyRow 364 Tryz.t364 Tryz.t364 := ⟨by kernel_rfl, by kernel_rfl, by kernel_rfl⟩
theorem ty_365 : TyRow 365 Tryz.t365 Tryz.t365 := ⟨by kernel_rfl, by kernel_rfl, by kernel_rfl⟩
theorem ty_366 : TyRow 366 Tryz.t366 Tryz.t366 := ⟨by kernel_rfl, by kernel_rfl, by kernel_rfl⟩
theorem ty_367 : TyRow 367 Tryz.t367 Tryz.t367 := ⟨by kernel_rfl, by kernel_rfl, by kernel_rfl⟩
theorem ty_368 : TyRow 368 Tryz.t368 Tryz.t368 := ⟨by kernel_rfl, by kernel_rfl, by kernel_rfl⟩
theorem ty_369 : TyRow 369 Tryz.t369 Tryz.t369 := ⟨by kernel_rfl, by kernel_rfl, by kernel_rfl⟩
theorem ty_370 : TyRow 370 Tryz.t370 Tryz.t370 := ⟨by kernel_rfl, by kernel_rfl, by kernel_rfl⟩
theorem ty_371 : TyRow 371 Tryz.t371 Tryz.t371 := ⟨by kernel_rfl, by kernel_rfl, by kernel_rfl⟩
theorem ty_372 : TyRow 372 Tryz.t372 Tryz.t372 := ⟨by kernel_rfl, by kernel_rfl, by kernel_rfl⟩
theorem ty_373 : TyRow 373 Tryz.t373 Tryz.t373 := ⟨by kernel_rfl, by kernel_rfl, by kernel_rfl⟩
theorem ty_374 : TyRow 374 Tryz.t374 Tryz.t373 := ⟨by kernel_rfl, by kernel_rfl, by kernel_rfl⟩
theorem ty_375 : TyRow 375 Tryz.t375 Tryz.t375 := ⟨by kernel_rfl, by kernel_rfl, by kernel_rfl⟩
theorem ty_376 : TyRow 376 Tryz.t376 Tryz.t376 := ⟨by kernel_rfl, by kernel_rfl, by kernel_rfl⟩
theorem ty_377 : TyRow 377 Tryz.t377 Tryz.t377 := ⟨by kernel_rfl, by kernel_rfl, by kernel_rfl⟩
theorem ty_378 : TyRow 378 Tryz.t378 Tryz.t3 := ⟨by kernel_rfl, by kernel_rfl, by kernel_rfl⟩
theorem ty_379 : TyRow 379 Tryz.t379 Tryz.t379 := ⟨by kernel_rfl, by kernel_rfl, by kernel_rfl⟩
theorem ty_380 : TyRow 380 Tryz.t380 Tryz.t380 := ⟨by kernel_rfl, by kernel_rfl, by kernel_rfl⟩
theorem ty_381 : TyRow 381 Tryz.t381 Tryz.t381 := ⟨by kernel_rfl, by kernel_rfl, by kernel_rfl⟩
theorem ty_382 : TyRow 382 Tryz.t382 Tryz.t382 := ⟨by kernel_rfl, by kernel_rfl, by kernel_rfl⟩
theorem ty_383 : TyRow 383 Tryz.t383 Tryz.t383 := ⟨by kernel_rfl, by kernel_rfl, by kernel_rfl⟩
theorem ty_384 : TyRow 384 Tryz.t384 Tryz.t383 := ⟨by kernel_rfl, by kernel_rfl, by kernel_rfl⟩
theorem ty_385 : TyRow 385 Tryz.t385 Tryz.t385 := ⟨by kernel_rfl, by kernel_rfl, by kernel_rfl⟩
theorem ty_387 : TyRow 387 Tryz.t387 Tryz.t387 := ⟨by kernel_rfl, by kernel_rfl, by kernel_rfl⟩
theorem ty_388 : TyRow 388 Tryz.t388 Tryz.t388 := ⟨by kernel_rfl, by kernel_rfl, by kernel_rfl⟩
theorem ty_389 : TyRow 389 Tryz.t389 Tryz.t389 := ⟨by kernel_rfl, by kernel_rfl, by kernel_rfl⟩
theorem ty_390 : TyRow 390 Tryz.t390 Tryz.t390 := ⟨by kernel_rfl, by kernel_rfl, by kernel_rfl⟩
theorem ty_391 : TyRow 391 Tryz.t391 Tryz.t390 := ⟨by kernel_rfl, by kernel_rfl, by kernel_rfl⟩
theorem ty_392 : TyRow 392 Tryz.t392 Tryz.t392 := ⟨by kernel_rfl, by kernel_rfl, by kernel_rfl⟩
theorem ty_393 : TyRow 393 Tryz.t393 Tryz.t393 := ⟨by kernel_rfl, by kernel_rfl, by kernel_rfl⟩
theorem ty_394 : TyRow 394 Tryz.t394 Tryz.t394 := ⟨by kernel_rfl, by kernel_rfl, by kernel_rfl⟩
theorem ty_395 : TyRow 395 Tryz.t395 Tryz.t395 := ⟨by kernel_rfl, by kernel_rfl, by kernel_rfl⟩
theorem ty_396 : TyRow 396 Tryz.t396 Tryz.t395 := ⟨by kernel_rfl, by kernel_rfl, by kernel_rfl⟩
theorem ty_397 : TyRow 397 Tryz.t397 Tryz.t397 := ⟨by kernel_rfl, by kernel_rfl, by kernel_rfl⟩
theorem ty_398 : TyRow 398 Tryz.t398 Tryz.t398 := ⟨by kernel_rfl, by kernel_rfl, by kernel_rfl⟩
theorem ty_399 : TyRow 399 Tryz.t399 Tryz.t398 := ⟨by kernel_rfl, by kernel_rfl, by kernel_rfl⟩
theorem ty_400 : TyRow 400 Tryz.t400 Tryz.t400 := ⟨by kernel_rfl, by kernel_rfl, by kernel_rfl⟩
theorem ty_401 : TyRow 401 Tryz.t401 Tryz.t401 := ⟨by kernel_rfl, by kernel_rfl, by kernel_rfl⟩
theorem ty_402 : TyRow 402 Tryz.t402 Tryz.t401 := ⟨by kernel_rfl, by kernel_rfl, by kernel_rfl⟩
theorem ty_403 : TyRow 403 Tryz.t403 Tryz.t5 := ⟨by kernel_rfl, by kernel_rfl, by kernel_rfl⟩
theorem ty_404 : TyRow 404 Tryz.t404 Tryz.t5 := ⟨by kernel_rfl, by kernel_rfl, by kernel_rfl⟩
theorem ty_405 : TyRow 405 Tryz.t405 Tryz.t405 := ⟨by kernel_rfl, by kernel_rfl, by kernel_rfl⟩
theorem ty_406 : TyRow 406 Tryz.t406 Tryz.t21 := ⟨by kernel_rfl, by kernel_rfl, by kernel_rfl⟩
theorem ty_407 : TyRow 407 Tryz.t407 Tryz.t21 := ⟨by kernel_rfl, by kernel_rfl, by kernel_rfl⟩
theorem ty_408 : TyRow 408 Tryz.t408 Tryz.t408 := ⟨by kernel_rfl, by kernel_rfl, by kernel_rfl⟩
theorem ty_409 : TyRow 409 Tryz.t409 Tryz.t408 := ⟨by kernel_rfl, by kernel_rfl, by kernel_rfl⟩
theorem ty_410 : TyRow 410 Tryz.t410 Tryz.t410 := ⟨by kernel_rfl, by kernel_rfl, by kernel_rfl⟩
theorem ty_411 : TyRow 411 Tryz.t411 Tryz.t410 := ⟨by kernel_rfl, by kernel_rfl, by kernel_rfl⟩
theorem ty_412 : TyRow 412 Tryz.t412 Tryz.t412 := ⟨by kernel_rfl, by kernel_rfl, by kernel_rfl⟩
theorem ty_413 : TyRow 413 Tryz.t413 Tryz.t413 := ⟨by kernel_rfl, by kernel_rfl, by kernel_rfl⟩
theorem ty_414 : TyRow 414 Tryz.t414 Tryz.t414 := ⟨by kernel_rfl, by kernel_rfl, by kernel_rfl⟩
theorem ty_415 : TyRow 415 Tryz.t415 Tryz.t415 := ⟨by kernel_rfl, by kernel_rfl, by kernel_rfl⟩
theorem ty_416 : TyRow 416 Tryz.t416 Tryz.t415 := ⟨by kernel_rfl, by kernel_rfl, by kernel_rfl⟩
theorem ty_417 : TyRow 417 Tryz.t417 Tryz.t417 := ⟨by kernel_rfl, by kernel_rfl, by kernel_rfl⟩
theorem TT_all : TT.All (fun t ti => ∃ info d, TOk1 Tryz.prog t ti info d) 1 0 := ⟨ty_0.ok, ⟨ty_1.ok, ⟨ty_3.ok, ⟨ty_7.ok, ⟨ty_15.ok, ⟨ty_31.ok, ⟨ty_63.ok, ⟨ty_127.ok, ⟨ty_255.ok, trivial, trivial⟩, ⟨ty_383.ok, trivial, trivial⟩⟩, ⟨ty_191.ok, ⟨ty_319.ok, trivial, trivial⟩, trivial⟩⟩, ⟨ty_95.ok, ⟨ty_159.ok, ⟨ty_287.ok, trivial, trivial⟩, ⟨ty_415.ok, trivial, trivial⟩⟩, ⟨ty_223.ok, ⟨ty_351.ok, trivial, trivial⟩, trivial⟩⟩⟩, ⟨ty_47.ok, ⟨ty_79.ok, ⟨ty_143.ok, ⟨trivial, trivial, trivial⟩, ⟨ty_399.ok, trivial, trivial⟩⟩, ⟨ty_207.ok, ⟨ty_335.ok, trivial, trivial⟩, trivial⟩⟩, ⟨ty_111.ok, ⟨ty_175.ok, ⟨ty_303.ok, trivial, trivial⟩, trivial⟩, ⟨ty_239.ok, ⟨ty_367.ok, trivial, trivial⟩, trivial⟩⟩⟩⟩, ⟨ty_23.ok, ⟨ty_39.ok, ⟨trivial, ⟨ty_135.ok, ⟨ty_263.ok, trivial, trivial⟩, ⟨ty_391.ok, trivial, trivial⟩⟩, ⟨ty_199.ok, ⟨ty_327.ok, trivial, trivial⟩, trivial⟩⟩, ⟨trivial, ⟨ty_167.ok, ⟨ty_295.ok, trivial, trivial⟩, trivial⟩, ⟨trivial, ⟨ty_359.ok, trivial, trivial⟩, trivial⟩⟩⟩, ⟨ty_55.ok, ⟨ty_87.ok, ⟨ty_151.ok, ⟨ty_279.ok, trivial, trivial⟩, ⟨ty_407.ok, trivial, trivial⟩⟩, ⟨ty_215.ok, ⟨ty_343.ok, trivial, trivial⟩, trivial⟩⟩, ⟨ty_119.ok, ⟨trivial, ⟨ty_311.ok, trivial, trivial⟩, trivial⟩, ⟨ty_247.ok, ⟨ty_375.ok, trivial, trivial⟩, trivial⟩⟩⟩⟩⟩, ⟨ty_11.ok, ⟨ty_19.ok, ⟨ty_35.ok, ⟨ty_67.ok, ⟨ty_131.ok, ⟨ty_259.ok, trivial, trivial⟩, ⟨ty_387.ok, trivial, trivial⟩⟩, ⟨ty_195.ok, ⟨ty_323.ok, trivial, trivial⟩, trivial⟩⟩, ⟨ty_99.ok, ⟨ty_163.ok, ⟨ty_291.ok, trivial, trivial⟩, trivial⟩, ⟨ty_227.ok, ⟨ty_355.ok, trivial, trivial⟩, trivial⟩⟩⟩, ⟨ty_51.ok, ⟨ty_83.ok, ⟨ty_147.ok, ⟨ty_275.ok, trivial, trivial⟩, ⟨ty_403.ok, trivial, trivial⟩⟩, ⟨ty_211.ok, ⟨ty_339.ok, trivial, trivial⟩, trivial⟩⟩, ⟨ty_115.ok, ⟨ty_179.ok, ⟨ty_307.ok, trivial, trivial⟩, trivial⟩, ⟨ty_243.ok, ⟨ty_371.ok, trivial, trivial⟩, trivial⟩⟩⟩⟩, ⟨ty_27.ok, ⟨ty_43.ok, ⟨ty_75.ok, ⟨trivial, ⟨ty_267.ok, trivial, trivial⟩, ⟨ty_395.ok, trivial, trivial⟩⟩, ⟨ty_203.ok, ⟨ty_331.ok, trivial, trivial⟩, trivial⟩⟩, ⟨ty_107.ok, ⟨ty_171.ok, ⟨ty_299.ok, trivial, trivial⟩, trivial⟩, ⟨ty_235.ok, ⟨trivial, trivial, trivial⟩, trivial⟩⟩⟩, ⟨ty_59.ok, ⟨ty_91.ok, ⟨ty_155.ok, ⟨ty_283.ok, trivial, trivial⟩, ⟨ty_411.ok, trivial, trivial⟩⟩, ⟨ty_219.ok, ⟨ty_347.ok, trivial, trivial⟩, trivial⟩⟩, ⟨ty_123.ok, ⟨ty_187.ok, ⟨ty_315.ok, trivial, trivial⟩, trivial⟩, ⟨ty_251.ok, ⟨ty_379.ok, trivial, trivial⟩, trivial⟩⟩⟩⟩⟩⟩, ⟨ty_5.ok, ⟨ty_9.ok, ⟨ty_17.ok, ⟨ty_33.ok, ⟨ty_65.ok, ⟨ty_129.ok, ⟨ty_257.ok, trivial, trivial⟩, ⟨ty_385.ok, trivial, trivial⟩⟩, ⟨ty_193.ok, ⟨ty_321.ok, trivial, trivial⟩, trivial⟩⟩, ⟨ty_97.ok, ⟨ty_161.ok, ⟨ty_289.ok, trivial, trivial⟩, ⟨ty_417.ok, trivial, trivial⟩⟩, ⟨ty_225.ok, ⟨ty_353.ok, trivial, trivial⟩, trivial⟩⟩⟩, ⟨ty_49.ok, ⟨ty_81.ok, ⟨ty_145.ok, ⟨ty_273.ok, trivial, trivial⟩, ⟨ty_401.ok, trivial, trivial⟩⟩, ⟨ty_209.ok, ⟨ty_337.ok, trivial, trivial⟩, trivial⟩⟩, ⟨ty_113.ok, ⟨ty_177.ok, ⟨ty_305.ok, trivial, trivial⟩, trivial⟩, ⟨ty_241.ok, ⟨ty_369.ok, trivial, trivial⟩, trivial⟩⟩⟩⟩, ⟨ty_25.ok, ⟨ty_41.ok, ⟨ty_73.ok, ⟨ty_137.ok, ⟨ty_265.ok, trivial, trivial⟩, ⟨ty_393.ok, trivial, trivial⟩⟩, ⟨ty_201.ok, ⟨ty_329.ok, trivial, trivial⟩, trivial⟩⟩, ⟨ty_105.ok, ⟨ty_169.ok, ⟨ty_297.ok, trivial, trivial⟩, trivial⟩, ⟨ty_233.ok, ⟨ty_361.ok, trivial, trivial⟩, trivial⟩⟩⟩, ⟨ty_57.ok, ⟨ty_89.ok, ⟨ty_153.ok, ⟨ty_281.ok, trivial, trivial⟩, ⟨ty_409.ok, trivial, trivial⟩⟩, ⟨ty_217.ok, ⟨ty_345.ok, trivial, trivial⟩, trivial⟩⟩, ⟨ty_121.ok, ⟨trivial, ⟨trivial, trivial, trivial⟩, trivial⟩, ⟨ty_249.ok, ⟨ty_377.ok, trivial, trivial⟩, trivial⟩⟩⟩⟩⟩, ⟨ty_13.ok, ⟨ty_21.ok, ⟨ty_37.ok, ⟨ty_69.ok, ⟨ty_133.ok, ⟨ty_261.ok, trivial, trivial⟩, ⟨ty_389.ok, trivial, trivial⟩⟩, ⟨ty_197.ok, ⟨ty_325.ok, trivial, trivial⟩, trivial⟩⟩, ⟨ty_101.ok, ⟨ty_165.ok, ⟨ty_293.ok, trivial, trivial⟩, trivial⟩, ⟨ty_229.ok, ⟨ty_357.ok, trivial, trivial⟩, trivial⟩⟩⟩, ⟨ty_53.ok, ⟨ty_85.ok, ⟨ty_149.ok, ⟨ty_277.ok, trivial, trivial⟩, ⟨ty_405.ok, trivial, trivial⟩⟩, ⟨ty_213.ok, ⟨ty_341.ok, trivial, trivial⟩, trivial⟩⟩, ⟨trivial, ⟨ty_181.ok, ⟨ty_309.ok, trivial, trivial⟩, trivial⟩, ⟨trivial, ⟨ty_373.ok, trivial, trivial⟩, trivial⟩⟩⟩⟩, ⟨ty_29.ok, ⟨ty_45.ok, ⟨ty_77.ok, ⟨trivial, ⟨ty_269.ok, trivial, trivial⟩, ⟨ty_397.ok, trivial, trivial⟩⟩, ⟨ty_205.ok, ⟨ty_333.ok, trivial, trivial⟩, trivial⟩⟩, ⟨ty_109.ok, ⟨ty_173.ok, ⟨ty_301.ok, trivial, trivial⟩, trivial⟩, ⟨ty_237.ok, ⟨ty_365.ok, trivial, trivial⟩, trivial⟩⟩⟩, ⟨ty_61.ok, ⟨trivial, ⟨ty_157.ok, ⟨ty_285.ok, trivial, trivial⟩, ⟨ty_413.ok, trivial, trivial⟩⟩, ⟨ty_221.ok, ⟨trivial, trivial, trivial⟩, trivial⟩⟩, ⟨ty_125.ok, ⟨ty_189.ok, ⟨ty_317.ok, trivial, trivial⟩, trivial⟩, ⟨ty_253.ok, ⟨ty_381.ok, trivial, trivial⟩, trivial⟩⟩⟩⟩⟩⟩⟩, ⟨ty_2.ok, ⟨ty_4.ok, ⟨ty_8.ok, ⟨ty_16.ok, ⟨ty_32.ok, ⟨ty_64.ok, ⟨ty_128.ok, ⟨ty_256.ok, trivial, trivial⟩, ⟨ty_384.ok, trivial, trivial⟩⟩, ⟨ty_192.ok, ⟨ty_320.ok, trivial, trivial⟩, trivial⟩⟩, ⟨ty_96.ok, ⟨ty_160.ok, ⟨ty_288.ok, trivial, trivial⟩, ⟨ty_416.ok, trivial, trivial⟩⟩, ⟨ty_224.ok, ⟨ty_352.ok, trivial, trivial⟩, trivial⟩⟩⟩, ⟨ty_48.ok, ⟨ty_80.ok, ⟨ty_144.ok, ⟨ty_272.ok, trivial, trivial⟩, ⟨ty_400.ok, trivial, trivial⟩⟩, ⟨ty_208.ok, ⟨ty_336.ok, trivial, trivial⟩, trivial⟩⟩, ⟨ty_112.ok, ⟨ty_176.ok, ⟨trivial, trivial, trivial⟩, trivial⟩, ⟨ty_240.ok, ⟨ty_368.ok, trivial, trivial⟩, trivial⟩⟩⟩⟩, ⟨ty_24.ok, ⟨ty_40.ok, ⟨ty_72.ok, ⟨ty_136.ok, ⟨ty_264.ok, trivial, trivial⟩, ⟨ty_392.ok, trivial, trivial⟩⟩, ⟨trivial, ⟨ty_328.ok, trivial, trivial⟩, trivial⟩⟩, ⟨ty_104.ok, ⟨ty_168.ok, ⟨ty_296.ok, trivial, trivial⟩, trivial⟩, ⟨ty_232.ok, ⟨ty_360.ok, trivial, trivial⟩, trivial⟩⟩⟩, ⟨ty_56.ok, ⟨ty_88.ok, ⟨ty_152.ok, ⟨ty_280.ok, trivial, trivial⟩, ⟨ty_408.ok, trivial, trivial⟩⟩, ⟨ty_216.ok, ⟨ty_344.ok, trivial, trivial⟩, trivial⟩⟩, ⟨ty_120.ok, ⟨ty_184.ok, ⟨ty_312.ok, trivial, trivial⟩, trivial⟩, ⟨trivial, ⟨ty_376.ok, trivial, trivial⟩, trivial⟩⟩⟩⟩⟩, ⟨ty_12.ok, ⟨ty_20.ok, ⟨trivial, ⟨ty_68.ok, ⟨ty_132.ok, ⟨ty_260.ok, trivial, trivial⟩, ⟨ty_388.ok, trivial, trivial⟩⟩, ⟨ty_196.ok, ⟨ty_324.ok, trivial, trivial⟩, trivial⟩⟩, ⟨ty_100.ok, ⟨ty_164.ok, ⟨ty_292.ok, trivial, trivial⟩, trivial⟩, ⟨ty_228.ok, ⟨ty_356.ok, trivial, trivial⟩, trivial⟩⟩⟩, ⟨ty_52.ok, ⟨ty_84.ok, ⟨ty_148.ok, ⟨trivial, trivial, trivial⟩, ⟨ty_404.ok, trivial, trivial⟩⟩, ⟨ty_212.ok, ⟨ty_340.ok, trivial, trivial⟩, trivial⟩⟩, ⟨ty_116.ok, ⟨ty_180.ok, ⟨ty_308.ok, trivial, trivial⟩, trivial⟩, ⟨ty_244.ok, ⟨ty_372.ok, trivial, trivial⟩, trivial⟩⟩⟩⟩, ⟨ty_28.ok, ⟨ty_44.ok, ⟨ty_76.ok, ⟨ty_140.ok, ⟨ty_268.ok, trivial, trivial⟩, ⟨ty_396.ok, trivial, trivial⟩⟩, ⟨ty_204.ok, ⟨ty_332.ok, trivial, trivial⟩, trivial⟩⟩, ⟨ty_108.ok, ⟨ty_172.ok, ⟨ty_300.ok, trivial, trivial⟩, trivial⟩, ⟨ty_236.ok, ⟨ty_364.ok, trivial, trivial⟩, trivial⟩⟩⟩, ⟨ty_60.ok, ⟨ty_92.ok, ⟨ty_156.ok, ⟨trivial, trivial, trivial⟩, ⟨ty_412.ok, trivial, trivial⟩⟩, ⟨ty_220.ok, ⟨ty_348.ok, trivial, trivial⟩, trivial⟩⟩, ⟨ty_124.ok, ⟨trivial, ⟨ty_316.ok, trivial, trivial⟩, trivial⟩, ⟨ty_252.ok, ⟨ty_380.ok, trivial, trivial⟩, trivial⟩⟩⟩⟩⟩⟩, ⟨ty_6.ok, ⟨ty_10.ok, ⟨ty_18.ok, ⟨ty_34.ok, ⟨ty_66.ok, ⟨ty_130.ok, ⟨ty_258.ok, trivial, trivial⟩, ⟨trivial, trivial, trivial⟩⟩, ⟨ty_194.ok, ⟨ty_322.ok, trivial, trivial⟩, trivial⟩⟩, ⟨trivial, ⟨ty_162.ok, ⟨ty_290.ok, trivial, trivial⟩, trivial⟩, ⟨ty_226.ok, ⟨ty_354.ok, trivial, trivial⟩, trivial⟩⟩⟩, ⟨ty_50.ok, ⟨ty_82.ok, ⟨ty_146.ok, ⟨ty_274.ok, trivial, trivial⟩, ⟨ty_402.ok, trivial, trivial⟩⟩, ⟨ty_210.ok, ⟨ty_338.ok, trivial, trivial⟩, trivial⟩⟩, ⟨ty_114.ok, ⟨ty_178.ok, ⟨trivial, trivial, trivial⟩, trivial⟩, ⟨ty_242.ok, ⟨ty_370.ok, trivial, trivial⟩, trivial⟩⟩⟩⟩, ⟨ty_26.ok, ⟨ty_42.ok, ⟨ty_74.ok, ⟨ty_138.ok, ⟨ty_266.ok, trivial, trivial⟩, ⟨ty_394.ok, trivial, trivial⟩⟩, ⟨ty_202.ok, ⟨trivial, trivial, trivial⟩, trivial⟩⟩, ⟨trivial, ⟨ty_170.ok, ⟨ty_298.ok, trivial, trivial⟩, trivial⟩, ⟨ty_234.ok, ⟨ty_362.ok, trivial, trivial⟩, trivial⟩⟩⟩, ⟨ty_58.ok, ⟨ty_90.ok, ⟨ty_154.ok, ⟨trivial, trivial, trivial⟩, ⟨ty_410.ok, trivial, trivial⟩⟩, ⟨trivial, ⟨ty_346.ok, trivial, trivial⟩, trivial⟩⟩, ⟨ty_122.ok, ⟨ty_186.ok, ⟨ty_314.ok, trivial, trivial⟩, trivial⟩, ⟨ty_250.ok, ⟨ty_378.ok, trivial, trivial⟩, trivial⟩⟩⟩⟩⟩, ⟨ty_14.ok, ⟨ty_22.ok, ⟨ty_38.ok, ⟨ty_70.ok, ⟨ty_134.ok, ⟨ty_262.ok, trivial, trivial⟩, ⟨ty_390.ok, trivial, trivial⟩⟩, ⟨trivial, ⟨ty_326.ok, trivial, trivial⟩, trivial⟩⟩, ⟨ty_102.ok, ⟨ty_166.ok, ⟨ty_294.ok, trivial, trivial⟩, trivial⟩, ⟨ty_230.ok, ⟨ty_358.ok, trivial, trivial⟩, trivial⟩⟩⟩, ⟨ty_54.ok, ⟨ty_86.ok, ⟨trivial, ⟨ty_278.ok, trivial, trivial⟩, ⟨ty_406.ok, trivial, trivial⟩⟩, ⟨ty_214.ok, ⟨ty_342.ok, trivial, trivial⟩, trivial⟩⟩, ⟨ty_118.ok, ⟨ty_182.ok, ⟨ty_310.ok, trivial, trivial⟩, trivial⟩, ⟨ty_246.ok, ⟨ty_374.ok, trivial, trivial⟩, trivial⟩⟩⟩⟩, ⟨ty_30.ok, ⟨ty_46.ok, ⟨trivial, ⟨ty_142.ok, ⟨ty_270.ok, trivial, trivial⟩, ⟨ty_398.ok, trivial, trivial⟩⟩, ⟨ty_206.ok, ⟨trivial, trivial, trivial⟩, trivial⟩⟩, ⟨ty_110.ok, ⟨ty_174.ok, ⟨ty_302.ok, trivial, trivial⟩, trivial⟩, ⟨ty_238.ok, ⟨ty_366.ok, trivial, trivial⟩, trivial⟩⟩⟩, ⟨ty_62.ok, ⟨ty_94.ok, ⟨ty_158.ok, ⟨ty_286.ok, trivial, trivial⟩, ⟨ty_414.ok, trivial, trivial⟩⟩, ⟨trivial, ⟨ty_350.ok, trivial, trivial⟩, trivial⟩⟩, ⟨trivial, ⟨ty_190.ok, ⟨trivial, trivial, trivial⟩, trivial⟩, ⟨ty_254.ok, ⟨ty_382.ok, trivial, trivial⟩, trivial⟩⟩⟩⟩⟩⟩⟩⟩
theorem hT : TOk E0 := fun t ti h => by
  have := TT_all.get (m := t) (v := ti) h
  rw [Nat.one_mul, Nat.add_zero] at this
  exact this
end Go.Proofs.YtejebgdikoehmaaGreatDoor
