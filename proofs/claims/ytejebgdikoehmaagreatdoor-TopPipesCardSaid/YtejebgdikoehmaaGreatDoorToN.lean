/- The symbolic executor: functions that have been looked at, part 1. -/
import Derived.Test.YtejebgdikoehmaaGreatDoorToM
namespace Go.Proofs.YtejebgdikoehmaaGreatDoor
open Go
set_option linter.unusedVariables false
set_option maxRecDepth 100000
theorem fo_2 : fnOk E0 Tryz.f2 = true := by kernel_rfl
theorem fo_6 : fnOk E0 Tryz.f6 = true := by kernel_rfl
theorem fo_10 : fnOk E0 Tryz.f10 = true := by kernel_rfl
theorem fo_14 : fnOk E0 Tryz.f14 = true := by kernel_rfl
theorem fo_18 : fnOk E0 Tryz.f18 = true := by kernel_rfl
theorem fo_22 : fnOk E0 Tryz.f22 = true := by kernel_rfl
theorem fo_26 : fnOk E0 Tryz.f26 = true := by kernel_rfl
theorem fo_30 : fnOk E0 Tryz.f30 = true := by kernel_rfl
theorem fo_34 : fnOk E0 Tryz.f34 = true := by kernel_rfl
theorem fo_38 : fnOk E0 Tryz.f38 = true := by kernel_rfl
theorem fo_42 : fnOk E0 Tryz.f42 = true := by kernel_rfl
theorem fo_46 : fnOk E0 Tryz.f46 = true := by kernel_rfl
theorem fo_50 : fnOk E0 Tryz.f50 = true := by kernel_rfl
theorem fo_54 : fnOk E0 Tryz.f54 = true := by kernel_rfl
theorem fo_58 : fnOk E0 Tryz.f58 = true := by kernel_rfl
theorem fo_62 : fnOk E0 Tryz.f62 = true := by kernel_rfl
theorem fo_66 : fnOk E0 Tryz.f66 = true := by kernel_rfl
theorem fo_70 : fnOk E0 Tryz.f70 = true := by kernel_rfl
theorem fo_74 : fnOk E0 Tryz.f74 = true := by kernel_rfl
theorem fo_78 : fnOk E0 Tryz.f78 = true := by kernel_rfl
theorem fo_82 : fnOk E0 Tryz.f82 = true := by kernel_rfl
theorem fo_86 : fnOk E0 Tryz.f86 = true := by kernel_rfl
theorem fo_90 : fnOk E0 Tryz.f90 = true := by kernel_rfl
theorem fo_94 : fnOk E0 Tryz.f94 = true := by kernel_rfl
theorem fo_98 : fnOk E0 Tryz.f98 = true := by kernel_rfl
theorem fo_102 : fnOk E0 Tryz.f102 = true := by kernel_rfl
theorem fo_106 : fnOk E0 Tryz.f106 = true := by kernel_rfl
theorem fo_110 : fnOk E0 Tryz.f110 = true := by kernel_rfl
theorem fo_114 : fnOk E0 Tryz.f114 = true := by kernel_rfl
theorem fo_118 : fnOk E0 Tryz.f118 = true := by kernel_rfl
theorem fo_122 : fnOk E0 Tryz.f122 = true := by kernel_rfl
theorem fo_126 : fnOk E0 Tryz.f126 = true := by kernel_rfl
theorem fo_130 : fnOk E0 Tryz.f130 = true := by kernel_rfl
theorem fo_134 : fnOk E0 Tryz.f134 = true := by kernel_rfl
theorem fo_138 : fnOk E0 Tryz.f138 = true := by kernel_rfl
theorem fo_142 : fnOk E0 Tryz.f142 = true := by kernel_rfl
theorem fo_146 : fnOk E0 Tryz.f146 = true := by kernel_rfl
theorem fo_150 : fnOk E0 Tryz.f150 = true := by kernel_rfl
theorem fo_154 : fnOk E0 Tryz.f154 = true := by kernel_rfl
theorem fo_158 : fnOk E0 Tryz.f158 = true := by kernel_rfl
theorem fo_162 : fnOk E0 Tryz.f162 = true := by kernel_rfl
theorem fo_166 : fnOk E0 Tryz.f166 = true := by kernel_rfl
theorem fo_170 : fnOk E0 Tryz.f170 = true := by kernel_rfl
theorem fo_174 : fnOk E0 Tryz.f174 = true := by kernel_rfl
theorem fo_178 : fnOk E0 Tryz.f178 = true := by kernel_rfl
theorem fo_182 : fnOk E0 Tryz.f182 = true := by kernel_rfl
theorem fo_186 : fnOk E0 Tryz.f186 = true := by kernel_rfl
theorem fo_190 : fnOk E0 Tryz.f190 = true := by kernel_rfl
theorem fo_194 : fnOk E0 Tryz.f194 = true := by kernel_rfl
theorem fo_199 : fnOk E0 Tryz.f199 = true := by kernel_rfl
theorem fo_203 : fnOk E0 Tryz.f203 = true := by kernel_rfl
theorem fo_208 : fnOk E0 Tryz.f208 = true := by kernel_rfl
theorem fo_212 : fnOk E0 Tryz.f212 = true := by kernel_rfl
theorem fo_216 : fnOk E0 Tryz.f216 = true := by kernel_rfl
theorem fo_220 : fnOk E0 Tryz.f220 = true := by kernel_rfl
theorem fo_224 : fnOk E0 Tryz.f224 = true := by kernel_rfl
theorem fo_229 : fnOk E0 Tryz.f229 = true := by kernel_rfl
theorem fo_233 : fnOk E0 Tryz.f233 = true := by kernel_rfl
theorem fo_237 : fnOk E0 Tryz.f237 = true := by kernel_rfl
theorem fo_241 : fnOk E0 Tryz.f241 = true := by kernel_rfl
theorem fo_245 : fnOk E0 Tryz.f245 = true := by kernel_rfl
theorem fo_251 : fnOk E0 Tryz.f251 = true := by kernel_rfl
theorem fo_255 : fnOk E0 Tryz.f255 = true := by kernel_rfl
theorem fo_259 : fnOk E0 Tryz.f259 = true := by kernel_rfl
theorem fo_263 : fnOk E0 Tryz.f263 = true := by kernel_rfl
theorem fo_267 : fnOk E0 Tryz.f267 = true := by kernel_rfl
theorem fo_271 : fnOk E0 Tryz.f271 = true := by kernel_rfl
theorem fo_275 : fnOk E0 Tryz.f275 = true := by kernel_rfl
theorem fo_280 : fnOk E0 Tryz.f280 = true := by kernel_rfl
theorem fo_284 : fnOk E0 Tryz.f284 = true := by kernel_rfl
theorem fo_288 : fnOk E0 Tryz.f288 = true := by kernel_rfl
theorem fo_311 : fnOk E0 Tryz.f311 = true := by kernel_rfl
theorem fo_315 : fnOk E0 Tryz.f315 = true := by kernel_rfl
theorem fo_319 : fnOk E0 Tryz.f319 = true := by kernel_rfl
theorem fo_323 : fnOk E0 Tryz.f323 = true := by kernel_rfl
theorem fo_327 : fnOk E0 Tryz.f327 = true := by kernel_rfl
theorem fo_331 : fnOk E0 Tryz.f331 = true := by kernel_rfl
theorem fo_335 : fnOk E0 Tryz.f335 = true := by kernel_rfl
theorem fo_339 : fnOk E0 Tryz.f339 = true := by kernel_rfl
theorem fo_343 : fnOk E0 Tryz.f343 = true := by kernel_rfl
theorem fo_347 : fnOk E0 Tryz.f347 = true := by kernel_rfl
theorem fo_365 : fnOk E0 Tryz.f365 = true := by kernel_rfl
end Go.Proofs.YtejebgdikoehmaaGreatDoor
/- The symbolic executor: functions that have been looked at, part 2. -/
namespace Go.Proofs.YtejebgdikoehmaaGreatDoor
open Go
set_option linter.unusedVariables false
set_option maxRecDepth 100000
theorem fo_3 : fnOk E0 Tryz.f3 = true := by kernel_rfl
theorem fo_7 : fnOk E0 Tryz.f7 = true := by kernel_rfl
theorem fo_11 : fnOk E0 Tryz.f11 = true := by kernel_rfl
theorem fo_15 : fnOk E0 Tryz.f15 = true := by kernel_rfl
theorem fo_19 : fnOk E0 Tryz.f19 = true := by kernel_rfl
theorem fo_23 : fnOk E0 Tryz.f23 = true := by kernel_rfl
theorem fo_27 : fnOk E0 Tryz.f27 = true := by kernel_rfl
theorem fo_31 : fnOk E0 Tryz.f31 = true := by kernel_rfl
theorem fo_35 : fnOk E0 Tryz.f35 = true := by kernel_rfl
theorem fo_39 : fnOk E0 Tryz.f39 = true := by kernel_rfl
theorem fo_43 : fnOk E0 Tryz.f43 = true := by kernel_rfl
theorem fo_47 : fnOk E0 Tryz.f47 = true := by kernel_rfl
theorem fo_51 : fnOk E0 Tryz.f51 = true := by kernel_rfl
theorem fo_55 : fnOk E0 Tryz.f55 = true := by kernel_rfl
theorem fo_59 : fnOk E0 Tryz.f59 = true := by kernel_rfl
theorem fo_63 : fnOk E0 Tryz.f63 = true := by kernel_rfl
theorem fo_67 : fnOk E0 Tryz.f67 = true := by kernel_rfl
theorem fo_71 : fnOk E0 Tryz.f71 = true := by kernel_rfl
theorem fo_75 : fnOk E0 Tryz.f75 = true := by kernel_rfl
theorem fo_79 : fnOk E0 Tryz.f79 = true := by kernel_rfl
theorem fo_83 : fnOk E0 Tryz.f83 = true := by kernel_rfl
theorem fo_87 : fnOk E0 Tryz.f87 = true := by kernel_rfl
theorem fo_91 : fnOk E0 Tryz.f91 = true := by kernel_rfl
theorem fo_95 : fnOk E0 Tryz.f95 = true := by kernel_rfl
theorem fo_99 : fnOk E0 Tryz.f99 = true := by kernel_rfl
theorem fo_103 : fnOk E0 Tryz.f103 = true := by kernel_rfl
theorem fo_107 : fnOk E0 Tryz.f107 = true := by kernel_rfl
theorem fo_111 : fnOk E0 Tryz.f111 = true := by kernel_rfl
theorem fo_115 : fnOk E0 Tryz.f115 = true := by kernel_rfl
theorem fo_119 : fnOk E0 Tryz.f119 = true := by kernel_rfl
theorem fo_123 : fnOk E0 Tryz.f123 = true := by kernel_rfl
theorem fo_127 : fnOk E0 Tryz.f127 = true := by kernel_rfl
theorem fo_131 : fnOk E0 Tryz.f131 = true := by kernel_rfl
theorem fo_135 : fnOk E0 Tryz.f135 = true := by kernel_rfl
theorem fo_139 : fnOk E0 Tryz.f139 = true := by kernel_rfl
theorem fo_143 : fnOk E0 Tryz.f143 = true := by kernel_rfl
theorem fo_147 : fnOk E0 Tryz.f147 = true := by kernel_rfl
theorem fo_151 : fnOk E0 Tryz.f151 = true := by kernel_rfl
theorem fo_155 : fnOk E0 Tryz.f155 = true := by kernel_rfl
theorem fo_159 : fnOk E0 Tryz.f159 = true := by kernel_rfl
theorem fo_163 : fnOk E0 Tryz.f163 = true := by kernel_rfl
theorem fo_167 : fnOk E0 Tryz.f167 = true := by kernel_rfl
theorem fo_171 : fnOk E0 Tryz.f171 = true := by kernel_rfl
theorem fo_175 : fnOk E0 Tryz.f175 = true := by kernel_rfl
theorem fo_179 : fnOk E0 Tryz.f179 = true := by kernel_rfl
theorem fo_183 : fnOk E0 Tryz.f183 = true := by kernel_rfl
theorem fo_187 : fnOk E0 Tryz.f187 = true := by kernel_rfl
theorem fo_191 : fnOk E0 Tryz.f191 = true := by kernel_rfl
theorem fo_196 : fnOk E0 Tryz.f196 = true := by kernel_rfl
theorem fo_200 : fnOk E0 Tryz.f200 = true := by kernel_rfl
theorem fo_204 : fnOk E0 Tryz.f204 = true := by kernel_rfl
theorem fo_209 : fnOk E0 Tryz.f209 = true := by kernel_rfl
theorem fo_213 : fnOk E0 Tryz.f213 = true := by kernel_rfl
theorem fo_217 : fnOk E0 Tryz.f217 = true := by kernel_rfl
theorem fo_221 : fnOk E0 Tryz.f221 = true := by kernel_rfl
theorem fo_226 : fnOk E0 Tryz.f226 = true := by kernel_rfl
theorem fo_230 : fnOk E0 Tryz.f230 = true := by kernel_rfl
theorem fo_234 : fnOk E0 Tryz.f234 = true := by kernel_rfl
theorem fo_238 : fnOk E0 Tryz.f238 = true := by kernel_rfl
theorem fo_242 : fnOk E0 Tryz.f242 = true := by kernel_rfl
theorem fo_246 : fnOk E0 Tryz.f246 = true := by kernel_rfl
theorem fo_252 : fnOk E0 Tryz.f252 = true := by kernel_rfl
theorem fo_256 : fnOk E0 Tryz.f256 = true := by kernel_rfl
theorem fo_260 : fnOk E0 Tryz.f260 = true := by kernel_rfl
theorem fo_264 : fnOk E0 Tryz.f264 = true := by kernel_rfl
theorem fo_268 : fnOk E0 Tryz.f268 = true := by kernel_rfl
theorem fo_272 : fnOk E0 Tryz.f272 = true := by kernel_rfl
theorem fo_276 : fnOk E0 Tryz.f276 = true := by kernel_rfl
theorem fo_281 : fnOk E0 Tryz.f281 = true := by kernel_rfl
theorem fo_285 : fnOk E0 Tryz.f285 = true := by kernel_rfl
theorem fo_308 : fnOk E0 Tryz.f308 = true := by kernel_rfl
theorem fo_312 : fnOk E0 Tryz.f312 = true := by kernel_rfl
theorem fo_316 : fnOk E0 Tryz.f316 = true := by kernel_rfl
theorem fo_320 : fnOk E0 Tryz.f320 = true := by kernel_rfl
theorem fo_324 : fnOk E0 Tryz.f324 = true := by kernel_rfl
theorem fo_328 : fnOk E0 Tryz.f328 = true := by kernel_rfl
theorem fo_332 : fnOk E0 Tryz.f332 = true := by kernel_rfl
theorem fo_336 : fnOk E0 Tryz.f336 = true := by kernel_rfl
theorem fo_340 : fnOk E0 Tryz.f340 = true := by kernel_rfl
theorem fo_344 : fnOk E0 Tryz.f344 = true := by kernel_rfl
theorem fo_348 : fnOk E0 Tryz.f348 = true := by kernel_rfl
end Go.Proofs.YtejebgdikoehmaaGreatDoor
/- The symbolic executor: functions that have been looked at, part 3. -/
namespace Go.Proofs.YtejebgdikoehmaaGreatDoor
open Go
set_option linter.unusedVariables false
set_option maxRecDepth 100000
theorem fo_4 : fnOk E0 Tryz.f4 = true := by kernel_rfl
theorem fo_8 : fnOk E0 Tryz.f8 = true := by kernel_rfl
theorem fo_12 : fnOk E0 Tryz.f12 = true := by kernel_rfl
theorem fo_16 : fnOk E0 Tryz.f16 = true := by kernel_rfl
theorem fo_20 : fnOk E0 Tryz.f20 = true := by kernel_rfl
theorem fo_24 : fnOk E0 Tryz.f24 = true := by kernel_rfl
theorem fo_28 : fnOk E0 Tryz.f28 = true := by kernel_rfl
theorem fo_32 : fnOk E0 Tryz.f32 = true := by kernel_rfl
theorem fo_36 : fnOk E0 Tryz.f36 = true := by kernel_rfl
theorem fo_40 : fnOk E0 Tryz.f40 = true := by kernel_rfl
theorem fo_44 : fnOk E0 Tryz.f44 = true := by kernel_rfl
theorem fo_48 : fnOk E0 Tryz.f48 = true := by kernel_rfl
theorem fo_52 : fnOk E0 Tryz.f52 = true := by kernel_rfl
theorem fo_56 : fnOk E0 Tryz.f56 = true := by kernel_rfl
theorem fo_60 : fnOk E0 Tryz.f60 = true := by kernel_rfl
theorem fo_64 : fnOk E0 Tryz.f64 = true := by kernel_rfl
theorem fo_68 : fnOk E0 Tryz.f68 = true := by kernel_rfl
theorem fo_72 : fnOk E0 Tryz.f72 = true := by kernel_rfl
theorem fo_76 : fnOk E0 Tryz.f76 = true := by kernel_rfl
theorem fo_80 : fnOk E0 Tryz.f80 = true := by kernel_rfl
theorem fo_84 : fnOk E0 Tryz.f84 = true := by kernel_rfl
theorem fo_88 : fnOk E0 Tryz.f88 = true := by kernel_rfl
theorem fo_92 : fnOk E0 Tryz.f92 = true := by kernel_rfl
theorem fo_96 : fnOk E0 Tryz.f96 = true := by kernel_rfl
theorem fo_100 : fnOk E0 Tryz.f100 = true := by kernel_rfl
theorem fo_104 : fnOk E0 Tryz.f104 = true := by kernel_rfl
theorem fo_108 : fnOk E0 Tryz.f108 = true := by kernel_rfl
theorem fo_112 : fnOk E0 Tryz.f112 = true := by kernel_rfl
theorem fo_116 : fnOk E0 Tryz.f116 = true := by kernel_rfl
theorem fo_120 : fnOk E0 Tryz.f120 = true := by kernel_rfl
theorem fo_124 : fnOk E0 Tryz.f124 = true := by kernel_rfl
theorem fo_128 : fnOk E0 Tryz.f128 = true := by kernel_rfl
theorem fo_132 : fnOk E0 Tryz.f132 = true := by kernel_rfl
theorem fo_136 : fnOk E0 Tryz.f136 = true := by kernel_rfl
theorem fo_140 : fnOk E0 Tryz.f140 = true := by kernel_rfl
theorem fo_144 : fnOk E0 Tryz.f144 = true := by kernel_rfl
theorem fo_148 : fnOk E0 Tryz.f148 = true := by kernel_rfl
theorem fo_152 : fnOk E0 Tryz.f152 = true := by kernel_rfl
theorem fo_156 : fnOk E0 Tryz.f156 = true := by kernel_rfl
theorem fo_160 : fnOk E0 Tryz.f160 = true := by kernel_rfl
theorem fo_164 : fnOk E0 Tryz.f164 = true := by kernel_rfl
theorem fo_168 : fnOk E0 Tryz.f168 = true := by kernel_rfl
theorem fo_172 : fnOk E0 Tryz.f172 = true := by kernel_rfl
theorem fo_176 : fnOk E0 Tryz.f176 = true := by kernel_rfl
theorem fo_180 : fnOk E0 Tryz.f180 = true := by kernel_rfl
theorem fo_184 : fnOk E0 Tryz.f184 = true := by kernel_rfl
theorem fo_188 : fnOk E0 Tryz.f188 = true := by kernel_rfl
theorem fo_192 : fnOk E0 Tryz.f192 = true := by kernel_rfl
theorem fo_197 : fnOk E0 Tryz.f197 = true := by kernel_rfl
theorem fo_201 : fnOk E0 Tryz.f201 = true := by kernel_rfl
theorem fo_205 : fnOk E0 Tryz.f205 = true := by kernel_rfl
theorem fo_210 : fnOk E0 Tryz.f210 = true := by kernel_rfl
theorem fo_214 : fnOk E0 Tryz.f214 = true := by kernel_rfl
theorem fo_218 : fnOk E0 Tryz.f218 = true := by kernel_rfl
theorem fo_222 : fnOk E0 Tryz.f222 = true := by kernel_rfl
theorem fo_227 : fnOk E0 Tryz.f227 = true := by kernel_rfl
theorem fo_231 : fnOk E0 Tryz.f231 = true := by kernel_rfl
theorem fo_235 : fnOk E0 Tryz.f235 = true := by kernel_rfl
theorem fo_239 : fnOk E0 Tryz.f239 = true := by kernel_rfl
theorem fo_243 : fnOk E0 Tryz.f243 = true := by kernel_rfl
theorem fo_247 : fnOk E0 Tryz.f247 = true := by kernel_rfl
theorem fo_253 : fnOk E0 Tryz.f253 = true := by kernel_rfl
theorem fo_257 : fnOk E0 Tryz.f257 = true := by kernel_rfl
theorem fo_261 : fnOk E0 Tryz.f261 = true := by kernel_rfl
theorem fo_265 : fnOk E0 Tryz.f265 = true := by kernel_rfl
theorem fo_269 : fnOk E0 Tryz.f269 = true := by kernel_rfl
theorem fo_273 : fnOk E0 Tryz.f273 = true := by kernel_rfl
theorem fo_277 : fnOk E0 Tryz.f277 = true := by kernel_rfl
theorem fo_282 : fnOk E0 Tryz.f282 = true := by kernel_rfl
theorem fo_286 : fnOk E0 Tryz.f286 = true := by kernel_rfl
theorem fo_309 : fnOk E0 Tryz.f309 = true := by kernel_rfl
theorem fo_313 : fnOk E0 Tryz.f313 = true := by kernel_rfl
theorem fo_317 : fnOk E0 Tryz.f317 = true := by kernel_rfl
theorem fo_321 : fnOk E0 Tryz.f321 = true := by kernel_rfl
theorem fo_325 : fnOk E0 Tryz.f325 = true := by kernel_rfl
theorem fo_329 : fnOk E0 Tryz.f329 = true := by kernel_rfl
theorem fo_333 : fnOk E0 Tryz.f333 = true := by kernel_rfl
theorem fo_337 : fnOk E0 Tryz.f337 = true := by kernel_rfl
theorem fo_341 : fnOk E0 Tryz.f341 = true := by kernel_rfl
theorem fo_345 : fnOk E0 Tryz.f345 = true := by kernel_rfl
theorem fo_349 : fnOk E0 Tryz.f349 = true := by kernel_rfl
end Go.Proofs.YtejebgdikoehmaaGreatDoor
/- The symbolic executor: functions that have been looked at, part 4. -/
namespace Go.Proofs.YtejebgdikoehmaaGreatDoor
open Go
set_option linter.unusedVariables false
set_option maxRecDepth 100000
theorem fo_5 : fnOk E0 Tryz.f5 = true := by kernel_rfl
theorem fo_9 : fnOk E0 Tryz.f9 = true := by kernel_rfl
theorem fo_13 : fnOk E0 Tryz.f13 = true := by kernel_rfl
theorem fo_17 : fnOk E0 Tryz.f17 = true := by kernel_rfl
theorem fo_21 : fnOk E0 Tryz.f21 = true := by kernel_rfl
theorem fo_25 : fnOk E0 Tryz.f25 = true := by kernel_rfl
theorem fo_29 : fnOk E0 Tryz.f29 = true := by kernel_rfl
theorem fo_33 : fnOk E0 Tryz.f33 = true := by kernel_rfl
theorem fo_37 : fnOk E0 Tryz.f37 = true := by kernel_rfl
theorem fo_41 : fnOk E0 Tryz.f41 = true := by kernel_rfl
theorem fo_45 : fnOk E0 Tryz.f45 = true := by kernel_rfl
theorem fo_49 : fnOk E0 Tryz.f49 = true := by kernel_rfl
theorem fo_53 : fnOk E0 Tryz.f53 = true := by kernel_rfl
theorem fo_57 : fnOk E0 Tryz.f57 = true := by kernel_rfl
theorem fo_61 : fnOk E0 Tryz.f61 = true := by kernel_rfl
theorem fo_65 : fnOk E0 Tryz.f65 = true := by kernel_rfl
theorem fo_69 : fnOk E0 Tryz.f69 = true := by kernel_rfl
theorem fo_73 : fnOk E0 Tryz.f73 = true := by kernel_rfl
theorem fo_77 : fnOk E0 Tryz.f77 = true := by kernel_rfl
theorem fo_81 : fnOk E0 Tryz.f81 = true := by kernel_rfl
theorem fo_85 : fnOk E0 Tryz.f85 = true := by kernel_rfl
theorem fo_89 : fnOk E0 Tryz.f89 = true := by kernel_rfl
theorem fo_93 : fnOk E0 Tryz.f93 = true := by kernel_rfl
theorem fo_97 : fnOk E0 Tryz.f97 = true := by kernel_rfl
theorem fo_101 : fnOk E0 Tryz.f101 = true := by kernel_rfl
theorem fo_105 : fnOk E0 Tryz.f105 = true := by kernel_rfl
theorem fo_109 : fnOk E0 Tryz.f109 = true := by kernel_rfl
theorem fo_113 : fnOk E0 Tryz.f113 = true := by kernel_rfl
theorem fo_117 : fnOk E0 Tryz.f117 = true := by kernel_rfl
theorem fo_121 : fnOk E0 Tryz.f121 = true := by kernel_rfl
theorem fo_125 : fnOk E0 Tryz.f125 = true := by kernel_rfl
theorem fo_129 : fnOk E0 Tryz.f129 = true := by kernel_rfl
theorem fo_133 : fnOk E0 Tryz.f133 = true := by kernel_rfl
theorem fo_137 : fnOk E0 Tryz.f137 = true := by kernel_rfl
theorem fo_141 : fnOk E0 Tryz.f141 = true := by kernel_rfl
theorem fo_145 : fnOk E0 Tryz.f145 = true := by kernel_rfl
theorem fo_149 : fnOk E0 Tryz.f149 = true := by kernel_rfl
theorem fo_153 : fnOk E0 Tryz.f153 = true := by kernel_rfl
theorem fo_157 : fnOk E0 Tryz.f157 = true := by kernel_rfl
theorem fo_161 : fnOk E0 Tryz.f161 = true := by kernel_rfl
theorem fo_165 : fnOk E0 Tryz.f165 = true := by kernel_rfl
theorem fo_169 : fnOk E0 Tryz.f169 = true := by kernel_rfl
theorem fo_173 : fnOk E0 Tryz.f173 = true := by kernel_rfl
theorem fo_177 : fnOk E0 Tryz.f177 = true := by kernel_rfl
theorem fo_181 : fnOk E0 Tryz.f181 = true := by kernel_rfl
theorem fo_185 : fnOk E0 Tryz.f185 = true := by kernel_rfl
theorem fo_189 : fnOk E0 Tryz.f189 = true := by kernel_rfl
theorem fo_193 : fnOk E0 Tryz.f193 = true := by kernel_rfl
theorem fo_198 : fnOk E0 Tryz.f198 = true := by kernel_rfl
theorem fo_202 : fnOk E0 Tryz.f202 = true := by kernel_rfl
theorem fo_207 : fnOk E0 Tryz.f207 = true := by kernel_rfl
theorem fo_211 : fnOk E0 Tryz.f211 = true := by kernel_rfl
theorem fo_215 : fnOk E0 Tryz.f215 = true := by kernel_rfl
theorem fo_219 : fnOk E0 Tryz.f219 = true := by kernel_rfl
theorem fo_223 : fnOk E0 Tryz.f223 = true := by kernel_rfl
theorem fo_228 : fnOk E0 Tryz.f228 = true := by kernel_rfl
theorem fo_232 : fnOk E0 Tryz.f232 = true := by kernel_rfl
theorem fo_236 : fnOk E0 Tryz.f236 = true := by kernel_rfl
theorem fo_240 : fnOk E0 Tryz.f240 = true := by kernel_rfl
theorem fo_244 : fnOk E0 Tryz.f244 = true := by kernel_rfl
theorem fo_250 : fnOk E0 Tryz.f250 = true := by kernel_rfl
theorem fo_254 : fnOk E0 Tryz.f254 = true := by kernel_rfl
theorem fo_258 : fnOk E0 Tryz.f258 = true := by kernel_rfl
theorem fo_262 : fnOk E0 Tryz.f262 = true := by kernel_rfl
theorem fo_266 : fnOk E0 Tryz.f266 = true := by kernel_rfl
theorem fo_270 : fnOk E0 Tryz.f270 = true := by kernel_rfl
theorem fo_274 : fnOk E0 Tryz.f274 = true := by kernel_rfl
theorem fo_279 : fnOk E0 Tryz.f279 = true := by kernel_rfl
theorem fo_283 : fnOk E0 Tryz.f283 = true := by kernel_rfl
theorem fo_287 : fnOk E0 Tryz.f287 = true := by kernel_rfl
theorem fo_310 : fnOk E0 Tryz.f310 = true := by kernel_rfl
theorem fo_314 : fnOk E0 Tryz.f314 = true := by kernel_rfl
theorem fo_318 : fnOk E0 Tryz.f318 = true := by kernel_rfl
theorem fo_322 : fnOk E0 Tryz.f322 = true := by kernel_rfl
theorem fo_326 : fnOk E0 Tryz.f326 = true := by kernel_rfl
theorem fo_330 : fnOk E0 Tryz.f330 = true := by kernel_rfl
theorem fo_334 : fnOk E0 Tryz.f334 = true := by kernel_rfl
theorem fo_338 : fnOk E0 Tryz.f338 = true := by kernel_rfl
theorem fo_342 : fnOk E0 Tryz.f342 = true := by kernel_rfl
theorem fo_346 : fnOk E0 Tryz.f346 = true := by kernel_rfl
theorem fo_350 : fnOk E0 Tryz.f350 = true := by kernel_rfl
end Go.Proofs.YtejebgdikoehmaaGreatDoor
/- The symbolic executor: all functions that have been looked at. -/
namespace Go.Proofs.YtejebgdikoehmaaGreatDoor
open Go
set_option linter.unusedVariables false
set_option maxRecDepth 100000
theorem FT_all : FT.All (fun f fn => E0.P.funcs[f]? = some fn ∧ fnOk E0 fn = true) 1 0 := ⟨trivial, ⟨trivial, ⟨⟨Tryz.func3, fo_3⟩, ⟨⟨Tryz.func7, fo_7⟩, ⟨⟨Tryz.func15, fo_15⟩, ⟨⟨Tryz.func31, fo_31⟩, ⟨⟨Tryz.func63, fo_63⟩, ⟨⟨Tryz.func127, fo_127⟩, ⟨⟨Tryz.func255, fo_255⟩, trivial, trivial⟩, trivial⟩, ⟨⟨Tryz.func191, fo_191⟩, ⟨⟨Tryz.func319, fo_319⟩, trivial, trivial⟩, trivial⟩⟩, ⟨⟨Tryz.func95, fo_95⟩, ⟨⟨Tryz.func159, fo_159⟩, ⟨⟨Tryz.func287, fo_287⟩, trivial, trivial⟩, trivial⟩, ⟨⟨Tryz.func223, fo_223⟩, ⟨trivial, trivial, trivial⟩, trivial⟩⟩⟩, ⟨⟨Tryz.func47, fo_47⟩, ⟨⟨Tryz.func79, fo_79⟩, ⟨⟨Tryz.func143, fo_143⟩, ⟨⟨Tryz.func271, fo_271⟩, trivial, trivial⟩, trivial⟩, ⟨⟨Tryz.func207, fo_207⟩, ⟨⟨Tryz.func335, fo_335⟩, trivial, trivial⟩, trivial⟩⟩, ⟨⟨Tryz.func111, fo_111⟩, ⟨⟨Tryz.func175, fo_175⟩, ⟨trivial, trivial, trivial⟩, trivial⟩, ⟨⟨Tryz.func239, fo_239⟩, trivial, trivial⟩⟩⟩⟩, ⟨⟨Tryz.func23, fo_23⟩, ⟨⟨Tryz.func39, fo_39⟩, ⟨⟨Tryz.func71, fo_71⟩, ⟨⟨Tryz.func135, fo_135⟩, ⟨⟨Tryz.func263, fo_263⟩, trivial, trivial⟩, trivial⟩, ⟨⟨Tryz.func199, fo_199⟩, ⟨⟨Tryz.func327, fo_327⟩, trivial, trivial⟩, trivial⟩⟩, ⟨⟨Tryz.func103, fo_103⟩, ⟨⟨Tryz.func167, fo_167⟩, ⟨trivial, trivial, trivial⟩, trivial⟩, ⟨⟨Tryz.func231, fo_231⟩, ⟨trivial, trivial, trivial⟩, trivial⟩⟩⟩, ⟨⟨Tryz.func55, fo_55⟩, ⟨⟨Tryz.func87, fo_87⟩, ⟨⟨Tryz.func151, fo_151⟩, ⟨⟨Tryz.func279, fo_279⟩, trivial, trivial⟩, trivial⟩, ⟨⟨Tryz.func215, fo_215⟩, ⟨⟨Tryz.func343, fo_343⟩, trivial, trivial⟩, trivial⟩⟩, ⟨⟨Tryz.func119, fo_119⟩, ⟨⟨Tryz.func183, fo_183⟩, ⟨⟨Tryz.func311, fo_311⟩, trivial, trivial⟩, trivial⟩, ⟨⟨Tryz.func247, fo_247⟩, trivial, trivial⟩⟩⟩⟩⟩, ⟨⟨Tryz.func11, fo_11⟩, ⟨⟨Tryz.func19, fo_19⟩, ⟨⟨Tryz.func35, fo_35⟩, ⟨⟨Tryz.func67, fo_67⟩, ⟨⟨Tryz.func131, fo_131⟩, ⟨⟨Tryz.func259, fo_259⟩, trivial, trivial⟩, trivial⟩, ⟨trivial, ⟨⟨Tryz.func323, fo_323⟩, trivial, trivial⟩, trivial⟩⟩, ⟨⟨Tryz.func99, fo_99⟩, ⟨⟨Tryz.func163, fo_163⟩, ⟨trivial, trivial, trivial⟩, trivial⟩, ⟨⟨Tryz.func227, fo_227⟩, ⟨trivial, trivial, trivial⟩, trivial⟩⟩⟩, ⟨⟨Tryz.func51, fo_51⟩, ⟨⟨Tryz.func83, fo_83⟩, ⟨⟨Tryz.func147, fo_147⟩, ⟨⟨Tryz.func275, fo_275⟩, trivial, trivial⟩, trivial⟩, ⟨⟨Tryz.func211, fo_211⟩, ⟨⟨Tryz.func339, fo_339⟩, trivial, trivial⟩, trivial⟩⟩, ⟨⟨Tryz.func115, fo_115⟩, ⟨⟨Tryz.func179, fo_179⟩, ⟨trivial, trivial, trivial⟩, trivial⟩, ⟨⟨Tryz.func243, fo_243⟩, trivial, trivial⟩⟩⟩⟩, ⟨⟨Tryz.func27, fo_27⟩, ⟨⟨Tryz.func43, fo_43⟩, ⟨⟨Tryz.func75, fo_75⟩, ⟨⟨Tryz.func139, fo_139⟩, ⟨⟨Tryz.func267, fo_267⟩, trivial, trivial⟩, trivial⟩, ⟨⟨Tryz.func203, fo_203⟩, ⟨⟨Tryz.func331, fo_331⟩, trivial, trivial⟩, trivial⟩⟩, ⟨⟨Tryz.func107, fo_107⟩, ⟨⟨Tryz.func171, fo_171⟩, ⟨trivial, trivial, trivial⟩, trivial⟩, ⟨⟨Tryz.func235, fo_235⟩, ⟨trivial, trivial, trivial⟩, trivial⟩⟩⟩, ⟨⟨Tryz.func59, fo_59⟩, ⟨⟨Tryz.func91, fo_91⟩, ⟨⟨Tryz.func155, fo_155⟩, ⟨⟨Tryz.func283, fo_283⟩, trivial, trivial⟩, trivial⟩, ⟨⟨Tryz.func219, fo_219⟩, ⟨⟨Tryz.func347, fo_347⟩, trivial, trivial⟩, trivial⟩⟩, ⟨⟨Tryz.func123, fo_123⟩, ⟨⟨Tryz.func187, fo_187⟩, ⟨⟨Tryz.func315, fo_315⟩, trivial, trivial⟩, trivial⟩, ⟨⟨Tryz.func251, fo_251⟩, trivial, trivial⟩⟩⟩⟩⟩⟩, ⟨⟨Tryz.func5, fo_5⟩, ⟨⟨Tryz.func9, fo_9⟩, ⟨⟨Tryz.func17, fo_17⟩, ⟨⟨Tryz.func33, fo_33⟩, ⟨⟨Tryz.func65, fo_65⟩, ⟨⟨Tryz.func129, fo_129⟩, ⟨⟨Tryz.func257, fo_257⟩, trivial, trivial⟩, trivial⟩, ⟨⟨Tryz.func193, fo_193⟩, ⟨⟨Tryz.func321, fo_321⟩, trivial, trivial⟩, trivial⟩⟩, ⟨⟨Tryz.func97, fo_97⟩, ⟨⟨Tryz.func161, fo_161⟩, ⟨trivial, trivial, trivial⟩, trivial⟩, ⟨trivial, ⟨trivial, trivial, trivial⟩, trivial⟩⟩⟩, ⟨⟨Tryz.func49, fo_49⟩, ⟨⟨Tryz.func81, fo_81⟩, ⟨⟨Tryz.func145, fo_145⟩, ⟨⟨Tryz.func273, fo_273⟩, trivial, trivial⟩, trivial⟩, ⟨⟨Tryz.func209, fo_209⟩, ⟨⟨Tryz.func337, fo_337⟩, trivial, trivial⟩, trivial⟩⟩, ⟨⟨Tryz.func113, fo_113⟩, ⟨⟨Tryz.func177, fo_177⟩, ⟨trivial, trivial, trivial⟩, trivial⟩, ⟨⟨Tryz.func241, fo_241⟩, trivial, trivial⟩⟩⟩⟩, ⟨⟨Tryz.func25, fo_25⟩, ⟨⟨Tryz.func41, fo_41⟩, ⟨⟨Tryz.func73, fo_73⟩, ⟨⟨Tryz.func137, fo_137⟩, ⟨⟨Tryz.func265, fo_265⟩, trivial, trivial⟩, trivial⟩, ⟨⟨Tryz.func201, fo_201⟩, ⟨⟨Tryz.func329, fo_329⟩, trivial, trivial⟩, trivial⟩⟩, ⟨⟨Tryz.func105, fo_105⟩, ⟨⟨Tryz.func169, fo_169⟩, ⟨trivial, trivial, trivial⟩, trivial⟩, ⟨⟨Tryz.func233, fo_233⟩, ⟨trivial, trivial, trivial⟩, trivial⟩⟩⟩, ⟨⟨Tryz.func57, fo_57⟩, ⟨⟨Tryz.func89, fo_89⟩, ⟨⟨Tryz.func153, fo_153⟩, ⟨⟨Tryz.func281, fo_281⟩, trivial, trivial⟩, trivial⟩, ⟨⟨Tryz.func217, fo_217⟩, ⟨⟨Tryz.func345, fo_345⟩, trivial, trivial⟩, trivial⟩⟩, ⟨⟨Tryz.func121, fo_121⟩, ⟨⟨Tryz.func185, fo_185⟩, ⟨⟨Tryz.func313, fo_313⟩, trivial, trivial⟩, trivial⟩, ⟨trivial, trivial, trivial⟩⟩⟩⟩⟩, ⟨⟨Tryz.func13, fo_13⟩, ⟨⟨Tryz.func21, fo_21⟩, ⟨⟨Tryz.func37, fo_37⟩, ⟨⟨Tryz.func69, fo_69⟩, ⟨⟨Tryz.func133, fo_133⟩, ⟨⟨Tryz.func261, fo_261⟩, trivial, trivial⟩, trivial⟩, ⟨⟨Tryz.func197, fo_197⟩, ⟨⟨Tryz.func325, fo_325⟩, trivial, trivial⟩, trivial⟩⟩, ⟨⟨Tryz.func101, fo_101⟩, ⟨⟨Tryz.func165, fo_165⟩, ⟨trivial, trivial, trivial⟩, trivial⟩, ⟨⟨Tryz.func229, fo_229⟩, ⟨trivial, trivial, trivial⟩, trivial⟩⟩⟩, ⟨⟨Tryz.func53, fo_53⟩, ⟨⟨Tryz.func85, fo_85⟩, ⟨⟨Tryz.func149, fo_149⟩, ⟨⟨Tryz.func277, fo_277⟩, trivial, trivial⟩, trivial⟩, ⟨⟨Tryz.func213, fo_213⟩, ⟨⟨Tryz.func341, fo_341⟩, trivial, trivial⟩, trivial⟩⟩, ⟨⟨Tryz.func117, fo_117⟩, ⟨⟨Tryz.func181, fo_181⟩, ⟨⟨Tryz.func309, fo_309⟩, trivial, trivial⟩, trivial⟩, ⟨⟨Tryz.func245, fo_245⟩, trivial, trivial⟩⟩⟩⟩, ⟨⟨Tryz.func29, fo_29⟩, ⟨⟨Tryz.func45, fo_45⟩, ⟨⟨Tryz.func77, fo_77⟩, ⟨⟨Tryz.func141, fo_141⟩, ⟨⟨Tryz.func269, fo_269⟩, trivial, trivial⟩, trivial⟩, ⟨⟨Tryz.func205, fo_205⟩, ⟨⟨Tryz.func333, fo_333⟩, trivial, trivial⟩, trivial⟩⟩, ⟨⟨Tryz.func109, fo_109⟩, ⟨⟨Tryz.func173, fo_173⟩, ⟨trivial, trivial, trivial⟩, trivial⟩, ⟨⟨Tryz.func237, fo_237⟩, ⟨⟨Tryz.func365, fo_365⟩, trivial, trivial⟩, trivial⟩⟩⟩, ⟨⟨Tryz.func61, fo_61⟩, ⟨⟨Tryz.func93, fo_93⟩, ⟨⟨Tryz.func157, fo_157⟩, ⟨⟨Tryz.func285, fo_285⟩, trivial, trivial⟩, trivial⟩, ⟨⟨Tryz.func221, fo_221⟩, ⟨⟨Tryz.func349, fo_349⟩, trivial, trivial⟩, trivial⟩⟩, ⟨⟨Tryz.func125, fo_125⟩, ⟨⟨Tryz.func189, fo_189⟩, ⟨⟨Tryz.func317, fo_317⟩, trivial, trivial⟩, trivial⟩, ⟨⟨Tryz.func253, fo_253⟩, trivial, trivial⟩⟩⟩⟩⟩⟩⟩, ⟨⟨Tryz.func2, fo_2⟩, ⟨⟨Tryz.func4, fo_4⟩, ⟨⟨Tryz.func8, fo_8⟩, ⟨⟨Tryz.func16, fo_16⟩, ⟨⟨Tryz.func32, fo_32⟩, ⟨⟨Tryz.func64, fo_64⟩, ⟨⟨Tryz.func128, fo_128⟩, ⟨⟨Tryz.func256, fo_256⟩, trivial, trivial⟩, trivial⟩, ⟨⟨Tryz.func192, fo_192⟩, ⟨⟨Tryz.func320, fo_320⟩, trivial, trivial⟩, trivial⟩⟩, ⟨⟨Tryz.func96, fo_96⟩, ⟨⟨Tryz.func160, fo_160⟩, ⟨⟨Tryz.func288, fo_288⟩, trivial, trivial⟩, trivial⟩, ⟨⟨Tryz.func224, fo_224⟩, ⟨trivial, trivial, trivial⟩, trivial⟩⟩⟩, ⟨⟨Tryz.func48, fo_48⟩, ⟨⟨Tryz.func80, fo_80⟩, ⟨⟨Tryz.func144, fo_144⟩, ⟨⟨Tryz.func272, fo_272⟩, trivial, trivial⟩, trivial⟩, ⟨⟨Tryz.func208, fo_208⟩, ⟨⟨Tryz.func336, fo_336⟩, trivial, trivial⟩, trivial⟩⟩, ⟨⟨Tryz.func112, fo_112⟩, ⟨⟨Tryz.func176, fo_176⟩, ⟨trivial, trivial, trivial⟩, trivial⟩, ⟨⟨Tryz.func240, fo_240⟩, trivial, trivial⟩⟩⟩⟩, ⟨⟨Tryz.func24, fo_24⟩, ⟨⟨Tryz.func40, fo_40⟩, ⟨⟨Tryz.func72, fo_72⟩, ⟨⟨Tryz.func136, fo_136⟩, ⟨⟨Tryz.func264, fo_264⟩, trivial, trivial⟩, trivial⟩, ⟨⟨Tryz.func200, fo_200⟩, ⟨⟨Tryz.func328, fo_328⟩, trivial, trivial⟩, trivial⟩⟩, ⟨⟨Tryz.func104, fo_104⟩, ⟨⟨Tryz.func168, fo_168⟩, ⟨trivial, trivial, trivial⟩, trivial⟩, ⟨⟨Tryz.func232, fo_232⟩, ⟨trivial, trivial, trivial⟩, trivial⟩⟩⟩, ⟨⟨Tryz.func56, fo_56⟩, ⟨⟨Tryz.func88, fo_88⟩, ⟨⟨Tryz.func152, fo_152⟩, ⟨⟨Tryz.func280, fo_280⟩, trivial, trivial⟩, trivial⟩, ⟨⟨Tryz.func216, fo_216⟩, ⟨⟨Tryz.func344, fo_344⟩, trivial, trivial⟩, trivial⟩⟩, ⟨⟨Tryz.func120, fo_120⟩, ⟨⟨Tryz.func184, fo_184⟩, ⟨⟨Tryz.func312, fo_312⟩, trivial, trivial⟩, trivial⟩, ⟨trivial, trivial, trivial⟩⟩⟩⟩⟩, ⟨⟨Tryz.func12, fo_12⟩, ⟨⟨Tryz.func20, fo_20⟩, ⟨⟨Tryz.func36, fo_36⟩, ⟨⟨Tryz.func68, fo_68⟩, ⟨⟨Tryz.func132, fo_132⟩, ⟨⟨Tryz.func260, fo_260⟩, trivial, trivial⟩, trivial⟩, ⟨⟨Tryz.func196, fo_196⟩, ⟨⟨Tryz.func324, fo_324⟩, trivial, trivial⟩, trivial⟩⟩, ⟨⟨Tryz.func100, fo_100⟩, ⟨⟨Tryz.func164, fo_164⟩, ⟨trivial, trivial, trivial⟩, trivial⟩, ⟨⟨Tryz.func228, fo_228⟩, ⟨trivial, trivial, trivial⟩, trivial⟩⟩⟩, ⟨⟨Tryz.func52, fo_52⟩, ⟨⟨Tryz.func84, fo_84⟩, ⟨⟨Tryz.func148, fo_148⟩, ⟨⟨Tryz.func276, fo_276⟩, trivial, trivial⟩, trivial⟩, ⟨⟨Tryz.func212, fo_212⟩, ⟨⟨Tryz.func340, fo_340⟩, trivial, trivial⟩, trivial⟩⟩, ⟨⟨Tryz.func116, fo_116⟩, ⟨⟨Tryz.func180, fo_180⟩, ⟨⟨Tryz.func308, fo_308⟩, trivial, trivial⟩, trivial⟩, ⟨⟨Tryz.func244, fo_244⟩, trivial, trivial⟩⟩⟩⟩, ⟨⟨Tryz.func28, fo_28⟩, ⟨⟨Tryz.func44, fo_44⟩, ⟨⟨Tryz.func76, fo_76⟩, ⟨⟨Tryz.func140, fo_140⟩, ⟨⟨Tryz.func268, fo_268⟩, trivial, trivial⟩, trivial⟩, ⟨⟨Tryz.func204, fo_204⟩, ⟨⟨Tryz.func332, fo_332⟩, trivial, trivial⟩, trivial⟩⟩, ⟨⟨Tryz.func108, fo_108⟩, ⟨⟨Tryz.func172, fo_172⟩, ⟨trivial, trivial, trivial⟩, trivial⟩, ⟨⟨Tryz.func236, fo_236⟩, ⟨trivial, trivial, trivial⟩, trivial⟩⟩⟩, ⟨⟨Tryz.func60, fo_60⟩, ⟨⟨Tryz.func92, fo_92⟩, ⟨⟨Tryz.func156, fo_156⟩, ⟨⟨Tryz.func284, fo_284⟩, trivial, trivial⟩, trivial⟩, ⟨⟨Tryz.func220, fo_220⟩, ⟨⟨Tryz.func348, fo_348⟩, trivial, trivial⟩, trivial⟩⟩, ⟨⟨Tryz.func124, fo_124⟩, ⟨⟨Tryz.func188, fo_188⟩, ⟨⟨Tryz.func316, fo_316⟩, trivial, trivial⟩, trivial⟩, ⟨⟨Tryz.func252, fo_252⟩, trivial, trivial⟩⟩⟩⟩⟩⟩, ⟨⟨Tryz.func6, fo_6⟩, ⟨⟨Tryz.func10, fo_10⟩, ⟨⟨Tryz.func18, fo_18⟩, ⟨⟨Tryz.func34, fo_34⟩, ⟨⟨Tryz.func66, fo_66⟩, ⟨⟨Tryz.func130, fo_130⟩, ⟨⟨Tryz.func258, fo_258⟩, trivial, trivial⟩, trivial⟩, ⟨⟨Tryz.func194, fo_194⟩, ⟨⟨Tryz.func322, fo_322⟩, trivial, trivial⟩, trivial⟩⟩, ⟨⟨Tryz.func98, fo_98⟩, ⟨⟨Tryz.func162, fo_162⟩, ⟨trivial, trivial, trivial⟩, trivial⟩, ⟨⟨Tryz.func226, fo_226⟩, ⟨trivial, trivial, trivial⟩, trivial⟩⟩⟩, ⟨⟨Tryz.func50, fo_50⟩, ⟨⟨Tryz.func82, fo_82⟩, ⟨⟨Tryz.func146, fo_146⟩, ⟨⟨Tryz.func274, fo_274⟩, trivial, trivial⟩, trivial⟩, ⟨⟨Tryz.func210, fo_210⟩, ⟨⟨Tryz.func338, fo_338⟩, trivial, trivial⟩, trivial⟩⟩, ⟨⟨Tryz.func114, fo_114⟩, ⟨⟨Tryz.func178, fo_178⟩, ⟨trivial, trivial, trivial⟩, trivial⟩, ⟨⟨Tryz.func242, fo_242⟩, trivial, trivial⟩⟩⟩⟩, ⟨⟨Tryz.func26, fo_26⟩, ⟨⟨Tryz.func42, fo_42⟩, ⟨⟨Tryz.func74, fo_74⟩, ⟨⟨Tryz.func138, fo_138⟩, ⟨⟨Tryz.func266, fo_266⟩, trivial, trivial⟩, trivial⟩, ⟨⟨Tryz.func202, fo_202⟩, ⟨⟨Tryz.func330, fo_330⟩, trivial, trivial⟩, trivial⟩⟩, ⟨⟨Tryz.func106, fo_106⟩, ⟨⟨Tryz.func170, fo_170⟩, ⟨trivial, trivial, trivial⟩, trivial⟩, ⟨⟨Tryz.func234, fo_234⟩, ⟨trivial, trivial, trivial⟩, trivial⟩⟩⟩, ⟨⟨Tryz.func58, fo_58⟩, ⟨⟨Tryz.func90, fo_90⟩, ⟨⟨Tryz.func154, fo_154⟩, ⟨⟨Tryz.func282, fo_282⟩, trivial, trivial⟩, trivial⟩, ⟨⟨Tryz.func218, fo_218⟩, ⟨⟨Tryz.func346, fo_346⟩, trivial, trivial⟩, trivial⟩⟩, ⟨⟨Tryz.func122, fo_122⟩, ⟨⟨Tryz.func186, fo_186⟩, ⟨⟨Tryz.func314, fo_314⟩, trivial, trivial⟩, trivial⟩, ⟨⟨Tryz.func250, fo_250⟩, trivial, trivial⟩⟩⟩⟩⟩, ⟨⟨Tryz.func14, fo_14⟩, ⟨⟨Tryz.func22, fo_22⟩, ⟨⟨Tryz.func38, fo_38⟩, ⟨⟨Tryz.func70, fo_70⟩, ⟨⟨Tryz.func134, fo_134⟩, ⟨⟨Tryz.func262, fo_262⟩, trivial, trivial⟩, trivial⟩, ⟨⟨Tryz.func198, fo_198⟩, ⟨⟨Tryz.func326, fo_326⟩, trivial, trivial⟩, trivial⟩⟩, ⟨⟨Tryz.func102, fo_102⟩, ⟨⟨Tryz.func166, fo_166⟩, ⟨trivial, trivial, trivial⟩, trivial⟩, ⟨⟨Tryz.func230, fo_230⟩, ⟨trivial, trivial, trivial⟩, trivial⟩⟩⟩, ⟨⟨Tryz.func54, fo_54⟩, ⟨⟨Tryz.func86, fo_86⟩, ⟨⟨Tryz.func150, fo_150⟩, ⟨trivial, trivial, trivial⟩, trivial⟩, ⟨⟨Tryz.func214, fo_214⟩, ⟨⟨Tryz.func342, fo_342⟩, trivial, trivial⟩, trivial⟩⟩, ⟨⟨Tryz.func118, fo_118⟩, ⟨⟨Tryz.func182, fo_182⟩, ⟨⟨Tryz.func310, fo_310⟩, trivial, trivial⟩, trivial⟩, ⟨⟨Tryz.func246, fo_246⟩, trivial, trivial⟩⟩⟩⟩, ⟨⟨Tryz.func30, fo_30⟩, ⟨⟨Tryz.func46, fo_46⟩, ⟨⟨Tryz.func78, fo_78⟩, ⟨⟨Tryz.func142, fo_142⟩, ⟨⟨Tryz.func270, fo_270⟩, trivial, trivial⟩, trivial⟩, ⟨trivial, ⟨⟨Tryz.func334, fo_334⟩, trivial, trivial⟩, trivial⟩⟩, ⟨⟨Tryz.func110, fo_110⟩, ⟨⟨Tryz.func174, fo_174⟩, ⟨trivial, trivial, trivial⟩, trivial⟩, ⟨⟨Tryz.func238, fo_238⟩, trivial, trivial⟩⟩⟩, ⟨⟨Tryz.func62, fo_62⟩, ⟨⟨Tryz.func94, fo_94⟩, ⟨⟨Tryz.func158, fo_158⟩, ⟨⟨Tryz.func286, fo_286⟩, trivial, trivial⟩, trivial⟩, ⟨⟨Tryz.func222, fo_222⟩, ⟨⟨Tryz.func350, fo_350⟩, trivial, trivial⟩, trivial⟩⟩, ⟨⟨Tryz.func126, fo_126⟩, ⟨⟨Tryz.func190, fo_190⟩, ⟨⟨Tryz.func318, fo_318⟩, trivial, trivial⟩, trivial⟩, ⟨⟨Tryz.func254, fo_254⟩, trivial, trivial⟩⟩⟩⟩⟩⟩⟩⟩
theorem hF : FtOk E0 FT := fun f fn h => by
  have := FT_all.get (m := f) (v := fn) h
  rw [Nat.one_mul, Nat.add_zero] at this
  exact this
theorem hmix : E0.P.follows .mixedOrders = true := by kernel_rfl
end Go.Proofs.YtejebgdikoehmaaGreatDoor
