/- All functions. -/
import Derived.Test.YtlnoioahgincaaaGreatFin40b
